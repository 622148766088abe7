/-
The cache: what changes it; the clock.
No conditions.
-/
import Derived.Test.YtdjfdlpfchokcaaGreatQHm8
import Derived.Test.YtdjfdlpfchokcaaGreatQFactsA
import Derived.Test.YtdjfdlpfchokcaaGreatQFactsB
import Derived.Test.YtdjfdlpfchokcaaGreatQFactsC
import Derived.Test.YtdjfdlpfchokcaaGreatQFactsD
import Derived.Test.YtdjfdlpfchokcaaGreatQFactsE
import Derived.Test.YtdjfdlpfchokcaaGreatQRunH
import Derived.Test.YtdjfdlpfchokcaaGreatQEngXa
set_option linter.unusedSectionVars false
set_option linter.unusedSimpArgs false
set_option linter.unusedVariables false
namespace Go.Proofs.YtdjfdlpfchokcaaGreat
open Go Go.Eng Go.Ow
open Go.Mo hiding SlO SlR Sees Upd isT
variable [Toks]
set_option maxRecDepth 20000
attribute [local irreducible] hvc hops hop hplan hdrawP hval1 hopD HLoop
section
variable {PS : PL} {n : Nat} {own : List Nat} {c : Ca} {B : Int}
theorem cap_may {X : CaX} (h : CaAt PS n own c.raw X) (ok : okC B c) (w : Sd) : HCall Tryz.prog 53 [.ptr n 0 0 0, .agg (wtL w)] PS fun r PS' => r = .bool (c.mayW w.t w.b) ∧ PS' = PS := by
 refine (ca_may h w (Nat.le_trans ok.line_len (by omega))).mono ?_
 rintro r PS' ⟨rfl, rfl⟩
 refine ⟨?_, rfl⟩
 have := waits_sat h w.t
 unfold waitsB
 rw [this]
 unfold Ca.mayW
 cases (sat c.loads w.t) <;> rfl
theorem takes_some {c : Ca} {t : Int} {k : Nat} (h : c.takes t = some k) : ∃ hk : k < c.fs.length, c.fs[k].st = 0 := by
 unfold Ca.takes at h
 split at h
 ·obtain ⟨hk, h1, _⟩ := List.findIdx?_eq_some_iff_getElem.1 h
  exact ⟨hk, by simpa using h1⟩
 ·cases h
theorem cap_pin (h : CaP PS n own c) (ok : okC B c) (hB : B ≤ 1000000000) (t b : Int) : HCall Tryz.prog 23 [.ptr n 0 0 0, .int .i64 t, .int .i64 b] PS fun r PS' => r = .int .i64 (c.pin t b).2 ∧ ∃ own', CaP PS' n own' (c.pin t b).1 ∧ Upd own PS PS' own' := by
 obtain ⟨X, h⟩ := h
 have hll := ok.line_len
 have hfl := ok.len
 have hmx : maxLen = 9223372036854775807 := rfl
 refine enter_23 (by unfold Tryz.f23; exact rfl) ?_
 simp only [go_sem, seval]
 have h0 := h.app [.arr 0 3 [[.int .i64 t, .int .i64 b, .bool false]] false]
 have hw0 := getP_last PS (.arr 0 3 [[.int .i64 t, .int .i64 b, .bool false]] false)
 have hu0 : Upd own PS (PS ++ [.arr 0 3 [[.int .i64 t, .int .i64 b, .bool false]] false]) own := ⟨(Ext.app _ _).mono (by simp), fun m hm => .inl hm⟩
 have hwo : PS.length ∉ own := fun hm => by have := h.lt _ hm; omega
 generalize PS ++ [.arr 0 3 [[.int .i64 t, .int .i64 b, .bool false]] false] = PS1 at h0 hw0 hu0 ⊢
 clear h
 have h := h0
 refine pend_intro ((ca_block b).call ?_)
 cases hb : isB b with
 | false =>
  have e : c.pin t b = (c, 0) := by unfold Ca.pin; rw [hb]; rfl
  rw [e]
  simp only [go_sem, seval]
  exact ⟨own, ⟨X, h⟩, hu0⟩
 | true =>
  have hwt : wtL ⟨t, b⟩ = [.int .i64 t, .int .i64 b, .bool false] := by
   have := isB_iff.1 hb
   have : ¬ b = -1 := by omega
   simp [wtL, this]
  simp only [go_sem, seval, hw0]
  rw [← hwt]
  refine pend_intro ((cap_may h ok ⟨t, b⟩).mono ?_)
  rintro _ PS1 ⟨rfl, rfl⟩
  cases hm : c.mayW t b with
  | false =>
   have e : c.pin t b = (c, 0) := by unfold Ca.pin; rw [hb, hm]; rfl
   rw [e]
   simp only [go_sem, seval]
   exact ⟨own, ⟨X, h⟩, hu0⟩
  | true =>
   simp only [go_sem, seval]
   refine pend_intro ((ca_place h b).mono ?_)
   rintro _ PS1 ⟨rfl, rfl⟩
   cases hp : c.find b with
   | none =>
    have hp' : c.raw.at_ b = none := hp
    rw [hp']
    simp only [go_sem, seval, ixI]
    refine pend_intro ((ca_free h t (Nat.le_trans hll (by omega)) (Nat.le_trans hfl (by omega))).mono ?_)
    rintro _ PS1 ⟨rfl, rfl⟩
    have hto : (if turnL c.raw.line t then freeF c.raw.fs else none) = c.takes t := rfl
    rw [hto]
    cases hk : c.takes t with
    | none =>
     have e : c.pin t b = (c.ask t b, 4) := by unfold Ca.pin; rw [hb, hm, hp, hk]; rfl
     rw [e]
     simp only [go_sem, seval, hw0]
     rw [← hwt]
     refine pend_intro ((ca_ask h ⟨t, b⟩ (Nat.le_trans hll (by omega))).mono ?_)
     rintro _ PS2 ⟨own', X', h1, _, hu⟩
     simp only [go_sem, seval]
     have er : (c.ask t b).raw = { c.raw with line := if (sat c.line t).isNone then c.line ++ [⟨t, b⟩] else c.line } := by unfold Ca.ask; split <;> rfl
     exact ⟨own', ⟨X', er ▸ h1⟩, hu0.trans hu⟩
    | some k =>
     obtain ⟨hk1, hk2⟩ := takes_some hk
     have e : c.pin t b = ((c.put k ⟨1, b, 1, t, true, false, Nd.none⟩).leave t, 3) := by unfold Ca.pin; rw [hb, hm, hp, hk]; rfl
     rw [e]
     simp only [go_sem, seval, h.hf, h.rne]
     refine pend_intro ((ca_leave h t (Nat.le_trans hll (by omega)) ok.line).mono ?_)
     rintro _ PS2 ⟨own2, X2, h2, s2, hu2⟩
     rw [← s2.1, ← s2.2.1]
     obtain ⟨u, h3, h4⟩ := h2.row (i := k) hk1
     simp only [go_sem, seval, h2.hf, h2.rne, h4, frL, nodL, List.length_replicate]
     have h5 := h2.setF k ⟨true, true, true, true⟩ ⟨1, b, 1, t, true, false, Nd.none⟩
     have hu5 : Upd own2 PS2 (PS2.set X2.pf (.arr X2.vf 11 ((rowsF X2.ts).set k (frL ⟨true, true, true, true⟩ ⟨1, b, 1, t, true, false, Nd.none⟩)) true)) own2 := ⟨(Ext.set PS2 _ _).mono (by simp [h2.mf]), fun m hm => .inl hm⟩
     refine pend_intro ((ca_placeF h5 (by rw [List.length_set]; exact Nat.le_trans hfl (by omega)) k (by rw [List.length_set]; exact hk1)).mono ?_)
     rintro _ PS3 ⟨X3, h6, s3, hu6⟩
     simp only [go_sem, seval]
     refine ⟨own2, ⟨X3, ?_⟩, ((hu0.trans hu2).trans hu5).trans hu6⟩
     have er : ((c.put k ⟨1, b, 1, t, true, false, Nd.none⟩).leave t).raw = ⟨c.fs.set k ⟨1, b, 1, t, true, false, Nd.none⟩, fun b' => (c.put k ⟨1, b, 1, t, true, false, Nd.none⟩).find b', tasksOf c.loads, sleave c.line t, c.hand⟩ := rfl
     rw [er, find_new (b := b) hk1 (has_iff.2 ⟨rfl, .inl rfl⟩) (by rw [hk2]; decide) hp]
     simp only [List.getElem_set_self] at h6
     exact h6
   | some i =>
    have hp' : c.raw.at_ b = some i := hp
    obtain ⟨hi, hib⟩ := find_some hp
    obtain ⟨u, h1, h2⟩ := h.row hi
    have hii : (0 : Int) ≤ i := by omega
    have hx : ∀ Q, getP (PS1.set X.pf Q) X.pf = Q := fun Q => getP_set_eq Q h.hf
    have hrs : ∀ r, ((rowsF X.ts).set i r)[i]? = some r := fun r => by
     have := h.rows_len
     rw [List.getElem?_set_self (by rw [this]; exact hi)]
    rw [hp']
    have hi' : i < c.raw.fs.length := hi
    have hne2 : ∀ r, ¬ ((rowsF X.ts).set i r = []) := fun r e => h.rne (by simpa using e)
    have hpin := ok.pins _ (List.getElem_mem hi)
    have hpA : -9223372036854775808 ≤ c.raw.fs[i].pins + 1 := by show -9223372036854775808 ≤ c.fs[i].pins + 1; omega
    have hpB : c.raw.fs[i].pins + 1 ≤ 9223372036854775807 := by show c.fs[i].pins + 1 ≤ _; omega
    simp only [go_sem, seval, ixI, hii, h.hn, h.hf, h2, frL, nodL, hi', h.rne, hx, hrs, List.set_set, hne2, hpA, hpB]
    have h5 := h.setF i u { c.fs[i] with pins := c.fs[i].pins + 1, rf := true }
    have hu5 : Upd own PS1 (PS1.set X.pf (.arr X.vf 11 ((rowsF X.ts).set i (frL u { c.fs[i] with pins := c.fs[i].pins + 1, rf := true })) true)) own := ⟨(Ext.set PS1 _ _).mono (by simp [h.mf]), fun m hm => .inl hm⟩
    refine pend_intro ((ca_leave h5 t (Nat.le_trans hll (by omega)) ok.line).mono ?_)
    rintro _ PS2 ⟨own2, X2, h6, s2, hu2⟩
    have s2' : X2.pf = X.pf ∧ X2.vf = X.vf := ⟨s2.1, s2.2.1⟩
    rw [← s2'.1, ← s2'.2]
    obtain ⟨u2, h7, h8⟩ := h6.row (i := i) (by rw [List.length_set]; exact hi)
    simp only [List.getElem_set_self] at h8
    have hf1 : (fun b' => (c.put i { c.fs[i] with pins := c.fs[i].pins + 1, rf := true }).find b') = c.find := find_same hi rfl Iff.rfl
    have e := pin_some hb hm hp hi
    by_cases hst : c.fs[i].st = 2
    ·have e := e.trans (if_pos hst)
     simp only [go_sem, seval, h6.hf, h6.rne, h8, frL, nodL, hst]
     rw [e]
     refine ⟨rfl, own2, ⟨X2, ?_⟩, (hu0.trans hu5).trans hu2⟩
     have key : CaAt PS2 n own2 ⟨c.fs.set i { c.fs[i] with pins := c.fs[i].pins + 1, rf := true }, fun b' => (c.put i { c.fs[i] with pins := c.fs[i].pins + 1, rf := true }).find b', tasksOf c.loads, sleave c.line t, c.hand⟩ X2 := by rw [hf1]; exact h6
     exact key
    ·have e := e.trans (if_neg hst)
     simp only [go_sem, seval, h6.hf, h6.rne, h8, frL, nodL, hst, h6.hn, h6.hl]
     rw [e]
     have hlb : (tasksOf c.loads b).length ≤ 8 := Nat.le_trans (tasksOf_len _ _) ok.loads_len
     refine ⟨by simp, (h6.ml b).app (by simp) (by simp) (by simp [hroom, Ca.raw]; omega) fun v PS3 o hs hu h1 => ?_⟩
     have hn3 : getP PS3 n = _ := (hu.1.2 n (h6.lt n h6.mn) fun hm => by have := (h6.cb b n hm).1; rw [h6.cn] at this; omega).trans h6.hn
     have hl3 : getP PS3 X2.pl = _ := (hu.1.2 X2.pl (h6.lt _ h6.ml') fun hm => by have := (h6.cb b _ hm).1; rw [h6.cl] at this; omega).trans h6.hl
     have hs' : SlO PS3 1 v o ((tasksOf c.loads b ++ [t]).map kidL) := by rw [List.map_append]; exact hs
     obtain ⟨own', X', h9, s9, hu9⟩ := h6.setD b (isB_iff.1 hb).1 hs' hu
     simp only [go_sem, seval, hn3, hl3]
     refine ⟨own', ⟨X', ?_⟩, ((hu0.trans hu5).trans hu2).trans hu9⟩
     have key : CaAt (PS3.set X2.pl (.map 0 (if (mget b X2.el).isSome then X2.kl else X2.kl + 1) .i64 (mput b v X2.kl X2.el))) n own' ⟨c.fs.set i { c.fs[i] with pins := c.fs[i].pins + 1, rf := true }, fun b' => (c.put i { c.fs[i] with pins := c.fs[i].pins + 1, rf := true }).find b', tasksOf (c.loads ++ [⟨t, b⟩]), sleave c.line t, c.hand⟩ X' := by rw [hf1, tasksOf_add]; exact h9
     exact key
end
section
variable {PS : PL} {n : Nat} {own : List Nat} {c : Ca} {B : Int}
theorem setF_upd {c : Cr} {X : CaX} (h : CaAt PS n own c X) (Q : Piece) : Upd own PS (PS.set X.pf Q) own := ⟨(Ext.set PS _ _).mono (by simp [h.mf]), fun m hm => .inl hm⟩
theorem cap_unpin (h : CaP PS n own c) (ok : okC B c) (hB : B ≤ 1000000000) (b : Int) : HCall Tryz.prog 35 [.ptr n 0 0 0, .int .i64 b] PS fun r PS' => r = .bool (c.unpin b).2 ∧ CaP PS' n own (c.unpin b).1 ∧ Upd own PS PS' own := by
 obtain ⟨X, h⟩ := h
 refine enter_35 (by unfold Tryz.f35; exact rfl) ?_
 simp only [go_sem, seval]
 refine pend_intro ((ca_frame h b 2 fun i hi => find_lt hi).mono ?_)
 rintro _ PS ⟨rfl, rfl⟩
 have er : (c.raw.at_ b).filter (fun i => decide ((c.raw.fs.getD i Fm.free).st = 2)) = c.ready b := rfl
 rw [er]
 cases hr : c.ready b with
 | none =>
  have e : c.unpin b = (c, false) := by unfold Ca.unpin; rw [hr]
  rw [e]
  simp only [go_sem, seval]
  exact ⟨⟨X, h⟩, .refl _ _⟩
 | some i =>
  obtain ⟨hf, h0⟩ := Option.filter_eq_some_iff.1 hr
  obtain ⟨hi, hib⟩ := find_some hf
  obtain ⟨u, h1, h2⟩ := h.row hi
  have hpin := ok.pins _ (List.getElem_mem hi)
  have hpA : -9223372036854775808 ≤ c.raw.fs[i].pins - 1 := by show -9223372036854775808 ≤ c.fs[i].pins - 1; omega
  have hpB : c.raw.fs[i].pins - 1 ≤ 9223372036854775807 := by show c.fs[i].pins - 1 ≤ _; omega
  by_cases hp0 : c.fs[i].pins = 0
  ·have e : c.unpin b = (c, false) := by unfold Ca.unpin; rw [hr]; simp [at_eq hi, hp0]
   have hp0' : c.raw.fs[i].pins = 0 := hp0
   rw [e]
   simp only [go_sem, seval, h.hf, h.rne, h2, frL, nodL, hp0']
   exact ⟨⟨X, h⟩, .refl _ _⟩
  ·have e : c.unpin b = (c.put i { c.fs[i] with pins := c.fs[i].pins - 1 }, true) := by
    have e := at_eq hi
    unfold Ca.unpin; rw [hr]; simp only [e]; exact if_neg hp0
   have hp0' : ¬ c.raw.fs[i].pins = 0 := hp0
   rw [e]
   simp only [go_sem, seval, h.hf, h.rne, h2, frL, nodL, hp0', hpA, hpB]
   have hf1 : (fun b' => (c.put i { c.fs[i] with pins := c.fs[i].pins - 1 }).find b') = c.find := find_same hi rfl Iff.rfl
   exact ⟨CaP.put h i u _ hf1, setF_upd h _⟩
theorem cap_set (h : CaP PS n own c) (b : Int) (t : Fl) (d : Nd) (okd : okN d) : HCall Tryz.prog 31 [.ptr n 0 0 0, .int .i64 b, .agg (nodL t d)] PS fun r PS' => r = .bool (c.set_ b d).2 ∧ CaP PS' n own (c.set_ b d).1 ∧ Upd own PS PS' own := by
 obtain ⟨X, h⟩ := h
 refine enter_31 (by unfold Tryz.f31; exact rfl) ?_
 have h0 := h.app [.arr 0 5 [nodL t d] false]
 have hw0 := getP_last PS (.arr 0 5 [nodL t d] false)
 have hu0 : Upd own PS (PS ++ [.arr 0 5 [nodL t d] false]) own := ⟨(Ext.app _ _).mono (by simp), fun m hm => .inl hm⟩
 have hwf : PS.length ≠ X.pf := fun e => by have := h.lt _ h.mf; omega
 simp only [go_sem, seval, ones_nod, nodL_len]
 generalize PS ++ [.arr 0 5 [nodL t d] false] = PS1 at h0 hw0 hu0 ⊢
 clear h
 have h := h0
 refine pend_intro ((ca_frame h b 2 fun i hi => find_lt hi).mono ?_)
 rintro _ PS1 ⟨rfl, rfl⟩
 have er : (c.raw.at_ b).filter (fun i => decide ((c.raw.fs.getD i Fm.free).st = 2)) = c.ready b := rfl
 rw [er]
 cases hr : c.ready b with
 | none =>
  have e : c.set_ b d = (c, false) := by unfold Ca.set_; rw [hr]
  rw [e]
  simp only [go_sem, seval]
  exact ⟨⟨X, h⟩, hu0⟩
 | some i =>
  obtain ⟨hf, h0⟩ := Option.filter_eq_some_iff.1 hr
  obtain ⟨hi, hib⟩ := find_some hf
  obtain ⟨u, h1, h2⟩ := h.row hi
  have e : c.set_ b d = (c.put i { c.fs[i] with nd := d, dy := true }, true) := by
   have e := at_eq hi
   unfold Ca.set_; rw [hr]; simp only [e]
  rw [e]
  have hx : ∀ Q, getP (PS1.set X.pf Q) X.pf = Q := fun Q => getP_set_eq Q h.hf
  have hrs : ∀ r, ((rowsF X.ts).set i r)[i]? = some r := fun r => by
   have := h.rows_len
   rw [List.getElem?_set_self (by rw [this]; exact hi)]
  have hne2 : ∀ r, ¬ ((rowsF X.ts).set i r = []) := fun r e => h.rne (by simpa using e)
  have hw1 : ∀ Q, getP (PS1.set X.pf Q) PS.length = _ := fun Q => (getP_set_ne _ hwf.symm).trans hw0
  simp only [go_sem, seval, h.hf, h.rne, h2, frL, hw0, nodL_len]
  refine pend_intro ((ca_own t d okd).call ?_)
  simp only [go_sem, seval, h.hf, h.rne, h2, frL, nodL, hw0, hx, hrs, hne2, List.set_set]
  have hf1 : (fun b' => (c.put i { c.fs[i] with nd := d, dy := true }).find b') = c.find := find_same hi rfl Iff.rfl
  exact ⟨CaP.put h i Fl.no _ hf1, hu0.trans (setF_upd h _)⟩
theorem cap_fill (h : CaP PS n own c) (ok : okC B c) (b : Int) (t : Fl) (d : Nd) (okd : okN d) : HCall Tryz.prog 25 [.ptr n 0 0 0, .int .i64 b, .agg (nodL t d)] PS fun r PS' => ∃ u own', r = .tup [.imm u ((c.fill b d).2.1.map kidL), .bool (c.fill b d).2.2] ∧ CaP PS' n own' (c.fill b d).1 ∧ Upd own PS PS' own' := by
 obtain ⟨X, h⟩ := h
 refine HCall.frzOr ?_
 refine enter_25 (by unfold Tryz.f25; exact rfl) ?_
 have h0 := h.app [.arr 0 5 [nodL t d] false]
 have hw0 := getP_last PS (.arr 0 5 [nodL t d] false)
 have hu0 : Upd own PS (PS ++ [.arr 0 5 [nodL t d] false]) own := ⟨(Ext.app _ _).mono (by simp), fun m hm => .inl hm⟩
 have hwf : PS.length ≠ X.pf := fun e => by have := h.lt _ h.mf; omega
 simp only [go_sem, seval, ones_nod, nodL_len]
 generalize PS ++ [.arr 0 5 [nodL t d] false] = PS1 at h0 hw0 hu0 ⊢
 clear h
 have h := h0
 refine pend_intro ((ca_frame h b 1 fun i hi => find_lt hi).mono ?_)
 rintro _ PS1 ⟨rfl, rfl⟩
 cases hr : (c.raw.at_ b).filter (fun i => decide ((c.raw.fs.getD i Fm.free).st = 1)) with
 | none =>
  have e : c.fill b d = (c, [], false) := by
   unfold Ca.fill
   cases hf : c.find b with
   | none => rfl
   | some i =>
    have hf' : c.raw.at_ b = some i := hf
    rw [hf', Option.filter_some] at hr
    have hg : ¬ (c.at_ i).st = 1 := fun e1 => by
     have e2 : (c.raw.fs.getD i Fm.free).st = 1 := e1
     rw [e2] at hr; simp at hr
    simp only [if_neg hg]
  rw [e]
  simp only [go_sem, seval]
  exact .inl ⟨true, own, rfl, ⟨X, h⟩, hu0⟩
 | some i =>
  obtain ⟨hf, h0⟩ := Option.filter_eq_some_iff.1 hr
  obtain ⟨hi, hib⟩ := find_some hf
  obtain ⟨u, h1, h2⟩ := h.row hi
  have hst : c.fs[i].st = 1 := by have := of_decide_eq_true h0; simpa [Ca.raw, List.getD, hi] using this
  have e : c.fill b d = (⟨c.fs.set i { c.fs[i] with st := 2, nd := d }, c.line, c.loads.filter fun s => decide (s.b ≠ b), c.hand⟩, tasksOf c.loads b, true) := by
   have e := at_eq hi
   have hf' : c.find b = some i := hf
   unfold Ca.fill; rw [hf']; simp only [e]; exact if_pos hst
  rw [e]
  have hx : ∀ Q, getP (PS1.set X.pf Q) X.pf = Q := fun Q => getP_set_eq Q h.hf
  have hrs : ∀ r, ((rowsF X.ts).set i r)[i]? = some r := fun r => by
   have := h.rows_len
   rw [List.getElem?_set_self (by rw [this]; exact hi)]
  have hne2 : ∀ r, ¬ ((rowsF X.ts).set i r = []) := fun r e => h.rne (by simpa using e)
  simp only [go_sem, seval, h.hf, h.rne, h2, frL, hw0, nodL_len]
  refine pend_intro ((ca_own t d okd).call ?_)
  have h3 := h.setF i Fl.no { c.fs[i] with st := 2, nd := d }
  have hu3 := setF_upd h (.arr X.vf 11 ((rowsF X.ts).set i (frL Fl.no { c.fs[i] with st := 2, nd := d })) true)
  have hnQ := fun Q => (getP_set_ne Q h.n_f.symm).trans h.hn
  have hlQ := fun Q => (getP_set_ne Q h.f_l).trans h.hl
  have hst' : c.raw.fs[i].st = 1 := hst
  simp only [go_sem, seval, h.hf, h.rne, h2, frL, nodL, hw0, hx, hrs, hne2, List.set_set, hnQ, hlQ, hst']
  obtain ⟨X4, h4, s4, hno, ea, el⟩ := h3.delD b
  have hf1 : (fun b' => (c.put i { c.fs[i] with st := 2, nd := d }).find b') = c.find := find_same hi rfl (by simp [hst])
  have key : CaAt ((PS1.set X.pf (.arr X.vf 11 ((rowsF X.ts).set i (frL Fl.no { c.fs[i] with st := 2, nd := d })) true)).set X.pl (.map 0 X.kl .i64 (mdel b X.el))) n own ⟨c.fs.set i { c.fs[i] with st := 2, nd := d }, fun b' => (c.put i { c.fs[i] with st := 2, nd := d }).find b', tasksOf (c.loads.filter fun s => decide (s.b ≠ b)), c.line, c.hand⟩ X4 := by rw [hf1, tasksOf_del]; exact h4
  have hu4 : Upd own PS ((PS1.set X.pf (.arr X.vf 11 ((rowsF X.ts).set i (frL Fl.no { c.fs[i] with st := 2, nd := d })) true)).set X.pl (.map 0 X.kl .i64 (mdel b X.el))) own := (hu0.trans hu3).trans ⟨(Ext.set _ _ _).mono (by simp [h.ml']), fun m hm => .inl hm⟩
  have hml : SlO ((PS1.set X.pf (.arr X.vf 11 ((rowsF X.ts).set i (frL Fl.no { c.fs[i] with st := 2, nd := d })) true)).set X.pl (.map 0 X.kl .i64 (mdel b X.el))) 1 ((mget b X.el).getD (.imm true [])) (X.o b) ((tasksOf c.loads b).map kidL) := (h3.ml b).keep fun q hq => getP_set_ne _ fun e => by have := (h3.cb b q hq).1; rw [← e, h3.cl] at this; omega
  rcases hml.1 with ⟨hx1, hx2, _⟩ | ⟨q, ver, pre, sp, hx1, hg, hne, ho⟩
  ·exact .inl ⟨true, own, by rw [hx1, hx2], ⟨X4, key⟩, hu4⟩
  ·have hq : q ∈ X.o b := by rw [ho]; simp
   have hc := (h3.cb b q hq).1
   have hqo := hno q hq
   have c1 : q ≠ n := fun e => by rw [e, h3.cn] at hc; omega
   have c2 : q ≠ X4.pf := fun e => by rw [e, s4.1, h3.cf] at hc; omega
   have c3 : q ≠ X4.pa := fun e => by rw [e, ea, h3.ca] at hc; omega
   have c4 : q ≠ X4.pl := fun e => by rw [e, el, h3.cl] at hc; omega
   refine .inr ⟨q, ver, 1, _, true, .tup [.imm false ((tasksOf c.loads b).map kidL), .bool true], _, hg, ?_, FrzPS.only (getP_lt hg), false, _, rfl, ⟨X4, key.drop c1 c2 c3 c4 hqo.1 hqo.2⟩, ?_⟩
   ·rw [hx1]
    refine .tup _ _ rfl fun i x y hi1 hi2 => ?_
    match i with
    | 0 =>
     simp only [List.getElem?_cons_zero, Option.some.injEq] at hi1 hi2
     subst hi1 hi2
     have := FrzV.sl (n := q) (ver := ver) (E := pre ++ ((tasksOf c.loads b).map kidL ++ sp)) pre.length ((tasksOf c.loads b).map kidL).length none (by simp)
     rwa [List.drop_left' rfl, List.take_left' rfl] at this
    | 1 => cases hi1; cases hi2; exact .same _
    | i + 2 => simp at hi1
   ·exact hu4.trans ⟨(Ext.set _ _ _).mono (by intro m hm; simp at hm; subst hm; exact h.mb b m hq), fun m hm => .inl (List.mem_filter.1 hm).1⟩
end
section
variable {PS : PL} {n : Nat} {own : List Nat} {c : Ca} {B : Int}
theorem ca_empty : Pure Tryz.prog 48 [] (.agg (frL ⟨true, true, true, true⟩ Fm.free)) := by
 refine Pure.of_ext (scoped_agg.2 (fun x hx => by
  simp only [frL, nodL, Fm.free, Nd.none, List.mem_cons, List.not_mem_nil, or_false, List.map_nil] at hx
  rcases hx with rfl | rfl | rfl | rfl | rfl | rfl | rfl | rfl | rfl | rfl | rfl <;> first | exact .int _ _ | exact .bool _ | exact scoped_imm.2 (by simp))) fun PS => ?_
 refine enter_48 (by unfold Tryz.f48; exact rfl) ?_
 simp only [go_sem, seval]
 exact ⟨rfl, Ext.app _ _⟩
end
end Go.Proofs.YtdjfdlpfchokcaaGreat
namespace Go.Ow
open Go Go.Eng Go.Mo
variable [Toks]
def bL (b : Bool) : List HV := [.bool b]
end Go.Ow
namespace Go.Proofs.YtdjfdlpfchokcaaGreat
open Go Go.Eng Go.Ow
open Go.Mo hiding SlO SlR Sees Upd isT
variable [Toks]
set_option maxRecDepth 20000
attribute [local irreducible] hvc hops hop hplan hdrawP hval1 hopD HLoop
attribute [local irreducible] hvcG
theorem enterG_81 {c : Code} {args : List HV} {PS : PL} {K : HV → PL → Prop} (hc : Tryz.f81.body = some c) (h : hvcG Tryz.prog 0 (hopY Tryz.prog pu (hop Tryz.prog)) (drawBy Tryz.prog pu pl_81) c (hret Tryz.prog [.cell 6 3, .cell 7 3, .cell 8 84] K) (hframe 52 args) PS) : HCall Tryz.prog 81 args PS K := by
 have hp : (match Tryz.f81.body with | some c => plansOk pu tb_81 pl_81 c && plainF c | none => true) = true := by kernel_rfl
 rw [hc] at hp
 simp only [Bool.and_eq_true] at hp
 refine hcall_of_plansG tb_81 pl_81 pu mixed Tryz.func81 hc hp.2 hp.1 ?_
 rw [Tryz.results81, Tryz.ntmps81]
 exact h
theorem enterG_132 {c : Code} {args : List HV} {PS : PL} {K : HV → PL → Prop} (hc : Tryz.f132.body = some c) (h : hvcG Tryz.prog 0 (hopY Tryz.prog pu (hop Tryz.prog)) (drawBy Tryz.prog pu pl0) c (hret Tryz.prog [] K) (hframe 19 args) PS) : HCall Tryz.prog 132 args PS K := by
 have hp : (match Tryz.f132.body with | some c => plansOk pu tb0 pl0 c && plainF c | none => true) = true := by kernel_rfl
 rw [hc] at hp
 simp only [Bool.and_eq_true] at hp
 refine hcall_of_plansG tb0 pl0 pu mixed Tryz.func132 hc hp.2 hp.1 ?_
 rw [Tryz.results132, Tryz.ntmps132]
 exact h
theorem round_call {PS : PL} {K : HV → PL → Prop} (R : Nat → PL → Prop) (n pm pf : Nat) (m hand : Nat) (h0 : hand < m) (h1 : m ≤ 64)
  (hm : ∀ i PS, R i PS → getP PS pm = .arr 0 1 [[.int .i64 m]] false) (hf : ∀ i PS, R i PS → getP PS pf = .arr 0 1 [[.int .i64 hand]] false)
  (hR : R 0 PS)
  (step : ∀ i PS', i < 2 * m → R i PS' → hyield Tryz.prog pu (hop Tryz.prog) n 0 [.int .i64 ((hand + i) % m : Nat)] PS' (fun v PS2 => (v = .bool true ∧ R (i + 1) PS2) ∨ (v = .bool false ∧ K (.tup []) PS2)) (getP PS' n))
  (fin : ∀ PS', R (2 * m) PS' → K (.tup []) PS') : HCall Tryz.prog 132 [.ref n 0, .ptr pm 0 0 0, .ptr pf 0 0 0] PS K := by
 refine enterG_132 (by unfold Tryz.f132; exact rfl) ?_
 simp only [go_sem, seval, hm _ _ hR]
 refine ⟨⟨by omega, by omega⟩, pend_intro (loop_ruleY (α := Nat) (hopY_M hop_M) [false, false, false, false, true, false, false, false, true, true, true, true, true, true, true, true, true, true, true] (fun i => [(7, .int .i64 i)]) (fun i => 2 * m - i) (fun i PS' => i ≤ 2 * m ∧ R i PS') 0 ⟨Nat.zero_le _, hR⟩ ?_ ?_)⟩
 ·simp only [go_sem, seval, Int.natCast_zero]
 ·rintro i PS2 ⟨hi, h2⟩
  by_cases hlt : i < 2 * m
  ·have e1 : ((i : Int) < 2 * (m : Int)) = True := eq_true (by omega)
   simp only [go_sem, seval, e1, hm _ _ h2, hf _ _ h2]
   have e2 : ((hand : Int) + (i : Int)).tmod (m : Int) = ((hand + i) % m : Nat) := by
    rw [Int.tmod_eq_emod_of_nonneg (by omega)]; simp
   rw [e2]
   refine ⟨⟨by omega, by omega⟩, by omega, pend_intro (hyield_mono hop_M ?_ (step i _ hlt h2))⟩
   rintro v PS3 (⟨rfl, h3⟩ | ⟨rfl, h3⟩)
   ·simp only [go_sem, seval]
    exact ⟨⟨by omega, by omega⟩, i + 1, by omega, ⟨by omega, h3⟩, rfl⟩
   ·simp only [go_sem, seval]
    exact h3
  ·have e1 : ((i : Int) < 2 * (m : Int)) = False := eq_false (by omega)
   simp only [go_sem, seval, e1]
   have : i = 2 * m := by omega
   subst this
   exact fin _ h2
theorem range_rule {PS : PL} {fr : Fr} {ps : Array Tmp} {c1 c2 : Code} {Q : HX → Fr → PL → Prop} {pl : Nat → Plan} (tb : Nat → List Row) (R : Nat → PL → Prop) (pm pf : Nat) (m hand n : Nat) (hn : PS.length = n) (h0 : hand < m) (h1 : m ≤ 64)
  (hl : ps.toList.length = 1) (p1 : plainC c1 = true) (p2 : plainC c2 = true) (p3 : plansOk pu tb pl c1 = true) (p4 : plansOk pu tb pl c2 = true)
  (hm : ∀ i PS, R i PS → getP PS pm = .arr 0 1 [[.int .i64 m]] false) (hf : ∀ i PS, R i PS → getP PS pf = .arr 0 1 [[.int .i64 hand]] false)
  (hR : ∀ q, R 0 (PS ++ [q]))
  (step : ∀ i PS' lf d1 d2, i < 2 * m → R i PS' → getP PS' n = .rnd 0 .ready none lf ps.toList d1 d2 0 →
   hvc (hop Tryz.prog) (drawBy Tryz.prog pu pl) c1 (HX.then (fun fr1 PS1 => hrndBody 0 n (fun PSb =>
    hvc (hop Tryz.prog) (drawBy Tryz.prog pu pl) c2 (fun x _ PS2 => hrndEnd n 0 (fun v PS3 => (v = .bool true ∧ R (i + 1) PS3 ∧ getP PS3 n = .rnd 0 .ready none lf ps.toList d1 d2 0) ∨ (v = .bool false ∧ hrfEnd n fr Q PS3 (getP PS3 n))) x PS2 (getP PS2 n)) fr1 PSb) PS1 (getP PS1 n)) (fun _ _ _ => False))
    (putAll ps.toList [.int .i64 ((hand + i) % m : Nat)] fr) PS')
  (fin : ∀ PS' q, R (2 * m) PS' → getP PS' n = .rnd 0 .ready none fr ps.toList c1 c2 0 → Q .normal fr (PS'.set n q)) :
  hrf Tryz.prog 0 fr PS ps c1 c2 Q (some (132, [], [.ptr pm 0 0 0, .ptr pf 0 0 0])) := by
 subst hn
 refine ⟨by kernel_rfl, ?_⟩
 refine round_call (fun i PS' => R i PS' ∧ getP PS' PS.length = .rnd 0 .ready none fr ps.toList c1 c2 0) PS.length pm pf m hand h0 h1 (fun i PS h => hm i PS h.1) (fun i PS h => hf i PS h.1) ⟨hR _, getP_last _ _⟩ (fun i PS' hi ⟨h2, hg⟩ => ?_) (fun PS' ⟨h2, hg⟩ => ?_)
 ·exact yield_rule hop_M tb hg hl.symm p1 p2 p3 p4 (step i PS' _ _ _ hi h2 hg)
 ·rw [hg]; exact ⟨rfl, fin _ _ h2 hg⟩
theorem clock_rest (PS : PL) (hand m : Nat) (h0 : hand < m) (h1 : m ≤ 64) : HCall Tryz.prog 116 [.int .i64 hand, .int .i64 m] PS fun r PS' => r = .int .i64 hand ∧ PS' = PS := by
 refine HCall.data (.int .i64 _) ?_
 refine enter_116 (by unfold Tryz.f116; exact rfl) ?_
 simp only [go_sem, seval]
 have e1 : (hand : Int).tmod (m : Int) = hand := by rw [Int.tmod_eq_emod_of_nonneg (by omega)]; exact Int.emod_eq_of_lt (by omega) (by omega)
 have e2 : ((hand : Int) + m).tmod (m : Int) = hand := by rw [Int.tmod_eq_emod_of_nonneg (by omega), Int.add_emod_right]; exact Int.emod_eq_of_lt (by omega) (by omega)
 rw [e1, e2]
 exact ⟨by omega, ⟨by omega, by omega⟩, by omega, rfl, Ext.refl _⟩
theorem clock_round (PS : PL) (hand m : Nat) : HCall Tryz.prog 118 [.int .i64 hand, .int .i64 m] PS fun r PS' => r = .func (.func 132) [] [.ptr (PS.length + 1) 0 0 0, .ptr PS.length 0 0 0] ∧ PS' = PS ++ [.arr 0 1 [[.int .i64 hand]] false] ++ [.arr 0 1 [[.int .i64 m]] false] := by
 refine enter_118 (by unfold Tryz.f118; exact rfl) ?_
 simp only [go_sem, seval]
theorem Sees.one {PS : PL} {n : Nat} {x : HV} {rows : List (List HV)} (h : Sees PS n x rows) : HV.one x = true := by
 rcases h.1 with ⟨t, rfl⟩ | ⟨q, ver, pre, sp, o, cp, rfl, _⟩ <;> rfl
theorem cl_bool_sees {PS : PL} {x : HV} {l : List Bool} (h : Sees PS 1 x (l.map bL)) (hl : l.length ≤ 64) : HCall Tryz.prog 117 [x] PS fun r PS' => r = .sl PS.length 0 0 l.length none ∧ PS' = PS ++ [.arr 0 1 (l.map bL) true] := by
 rcases h.1 with ⟨t, rfl⟩ | ⟨q, ver, pre, sp, o, cp, rfl, hg, ho⟩
 ·have := cl_bool_imm PS t (l.map bL) h.2 (by simp [hroom]; omega)
  rw [List.length_map] at this
  exact this
 ·have := cl_bool_sl PS q ver pre.length (l.map bL).length cp 1 _ o hg (.inr rfl) (by simp) (by simp [hroom]; omega)
  have e : ((pre ++ (l.map bL ++ sp)).drop pre.length).take (l.map bL).length = l.map bL := by simp
  rw [e, List.length_map] at this
  rw [List.length_map]
  exact this
def swR (m hand : Nat) (s : Option Nat × List Bool) : HV :=
 match s.1 with
 | some k => .tup [.int .i64 k, .int .i64 ((k + 1) % m : Nat), .imm false (s.2.map bL)]
 | none => .tup [.int .i64 (-1), .int .i64 hand, .imm false (s.2.map bL)]
theorem swR_sc (m hand n : Nat) (s : Option Nat × List Bool) : Scoped n (swR m hand s) := by
 have : Scoped n (.imm false (s.2.map bL)) := by
  refine scoped_imm.2 fun l hl y hy => ?_
  obtain ⟨b, _, rfl⟩ := List.mem_map.1 hl
  simp [bL] at hy; subst hy; exact .bool _
 unfold swR
 cases s.1 with
 | none =>
  refine scoped_tup.2 fun x hx => ?_
  simp only [List.mem_cons, List.not_mem_nil, or_false] at hx
  rcases hx with rfl | rfl | rfl <;> first | exact .int _ _ | exact this
 | some k =>
  refine scoped_tup.2 fun x hx => ?_
  simp only [List.mem_cons, List.not_mem_nil, or_false] at hx
  rcases hx with rfl | rfl | rfl <;> first | exact .int _ _ | exact this
structure SwAt (PS : PL) (x : HV) (can : List Bool) (hand : Nat) (PS' : PL) (L : List Bool) : Prop where
 len : L.length = can.length
 ext : Ext [] PS PS'
 lt : PS'.length = PS.length + 9
 gx : getP PS' PS.length = .arr 0 1 [[x]] false
 gp : getP PS' (PS.length + 1) = .arr 0 1 [[.int .i64 0]] false
 gn : getP PS' (PS.length + 2) = .arr 0 1 [[.int .i64 0]] false
 gl : getP PS' (PS.length + 3) = .arr 0 1 [[.sl (PS.length + 5) 0 0 can.length none]] false
 gm : getP PS' (PS.length + 4) = .arr 0 1 [[.int .i64 can.length]] false
 gL : getP PS' (PS.length + 5) = .arr 0 1 (L.map bL) true
 gf : getP PS' (PS.length + 6) = .arr 0 1 [[.int .i64 hand]] false
 gm2 : getP PS' (PS.length + 6 + 1) = .arr 0 1 [[.int .i64 can.length]] false
theorem SwAt.rnd {PS : PL} {x : HV} {can : List Bool} {hand : Nat} {PS' : PL} {L : List Bool} (h : SwAt PS x can hand PS' L) (q : Piece) : SwAt PS x can hand (PS'.set (PS.length + 8) q) L :=
 have hne : ∀ k, k < PS.length + 8 → getP (PS'.set (PS.length + 8) q) k = getP PS' k := fun k hk => getP_set_ne _ (by omega)
 { h with
  ext := ⟨by simpa using h.ext.1, fun n hn hm => (hne n (by omega)).trans (h.ext.2 n hn hm)⟩
  lt := by simpa using h.lt
  gx := (hne _ (by omega)).trans h.gx
  gp := (hne _ (by omega)).trans h.gp
  gn := (hne _ (by omega)).trans h.gn
  gl := (hne _ (by omega)).trans h.gl
  gm := (hne _ (by omega)).trans h.gm
  gL := (hne _ (by omega)).trans h.gL
  gf := (hne _ (by omega)).trans h.gf
  gm2 := (hne _ (by omega)).trans h.gm2 }
theorem SwAt.row {PS : PL} {x : HV} {can : List Bool} {hand : Nat} {PS' : PL} {L L' : List Bool} (h : SwAt PS x can hand PS' L) (hl : L'.length = L.length) : SwAt PS x can hand (PS'.set (PS.length + 5) (.arr 0 1 (L'.map bL) true)) L' :=
  have hne : ∀ k, k ≠ PS.length + 5 → getP (PS'.set (PS.length + 5) (.arr 0 1 (L'.map bL) true)) k = getP PS' k := fun k hk => getP_set_ne _ (fun e => hk e.symm)
  { len := hl.trans h.len
    ext := ⟨by simpa using h.ext.1, fun n hn hm => (hne n (by omega)).trans (h.ext.2 n hn hm)⟩
    lt := by simpa using h.lt
    gx := (hne _ (by omega)).trans h.gx
    gp := (hne _ (by omega)).trans h.gp
    gn := (hne _ (by omega)).trans h.gn
    gl := (hne _ (by omega)).trans h.gl
    gm := (hne _ (by omega)).trans h.gm
    gL := getP_set_self _ (by have := h.lt; omega)
    gf := (hne _ (by omega)).trans h.gf
    gm2 := (hne _ (by omega)).trans h.gm2 }
def SwR (PS : PL) (x : HV) (can ref : List Bool) (hand i : Nat) (PS' : PL) : Prop := ∃ L, SwAt PS x can hand PS' L ∧ sweepF can hand (2 * can.length - i) L = sweepF can hand (2 * can.length) ref
theorem Ext.out {PS PS1 : PL} (h : Ext [] PS PS1) {n : Nat} (q : Piece) (hn : PS.length ≤ n) : Ext [] PS (PS1.set n q) :=
 h.since (Ext.set _ n q) fun m hm => by simp at hm; subst hm; exact .inr hn
theorem sw_fin {PS PS1 : PL} {L : List Bool} {m : Nat} {a b : Int} {res : HV} (hl : L.length = m) (hr : .tup [.int .i64 a, .int .i64 b, .imm false (L.map bL)] = res) (hg : getP PS1 (PS.length + 5) = .arr 0 1 (L.map bL) true) (he : Ext [] PS PS1) :
  ∃ n ver sz E opn r' PS2, getP PS1 n = .arr ver sz E opn ∧ FrzV n ver E (.tup [.int .i64 a, .int .i64 b, .sl (PS.length + 5) 0 0 m none]) r' ∧ FrzPS n ver E PS1 PS2 ∧ r' = res ∧ Ext [] PS PS2 := by
 have e : ((L.map bL).drop 0).take m = L.map bL := by rw [List.drop_zero]; exact List.take_of_length_le (by simp [hl])
 refine ⟨_, _, _, _, _, _, PS1.set (PS.length + 5) .dead, hg, FrzL.tup (.cons (.same _) (.cons (.same _) (.cons (.sl 0 m none (by simp [hl])) (.nil _ _ _)))), FrzPS.only (getP_lt hg), by rw [e]; exact hr, Ext.out he _ (by omega)⟩
theorem clock_sweep (PS : PL) (x y : HV) (can ref : List Bool) (hand : Nat) (hx : Sees PS 1 x (can.map bL)) (hy : Sees PS 1 y (ref.map bL)) (hl : ref.length = can.length) (h0 : hand < can.length) (h1 : can.length ≤ 64) :
  HCall Tryz.prog 81 [x, y, .int .i64 hand] PS fun r PS' => r = (match (sweepF can hand (2 * can.length) ref).1 with
   | some k => .tup [.int .i64 k, .int .i64 ((k + 1) % can.length : Nat), .imm false ((sweepF can hand (2 * can.length) ref).2.map bL)]
   | none => .tup [.int .i64 (-1), .int .i64 hand, .imm false ((sweepF can hand (2 * can.length) ref).2.map bL)]) ∧ PS' = PS := by
 show HCall Tryz.prog 81 [x, y, .int .i64 hand] PS fun r PS' => r = swR can.length hand (sweepF can hand (2 * can.length) ref) ∧ PS' = PS
 refine HCall.data (swR_sc _ _ _ _) (HCall.frz ?_)
 refine enterG_81 (by unfold Tryz.f81; exact rfl) ?_
 have mx : maxLen = 9223372036854775807 := rfl
 have hn0 : ¬ ((can.length : Int) = 0) := by omega
 simp only [go_sem, seval, Sees.len (Sees.app hx _), Sees.len (Sees.app hy _), List.length_map, hst_one (Sees.one hx), hl, hn0, List.append_assoc, List.cons_append, List.nil_append]
 intro _ _
 refine pend_intro ((clock_rest _ hand can.length h0 h1).mono ?_)
 rintro _ PS1 ⟨rfl, rfl⟩
 simp only [go_sem, seval]
 refine pend_intro ((cl_bool_sees (Sees.app hy _) (by omega)).mono ?_)
 rintro _ PS1 ⟨rfl, rfl⟩
 simp only [go_sem, seval, hl, List.append_assoc, List.cons_append, List.nil_append]
 refine pend_intro ((clock_round _ hand can.length).mono ?_)
 rintro _ PS1 ⟨rfl, rfl⟩
 simp only [go_sem, seval, hl, List.append_assoc, List.cons_append, List.nil_append]
 refine pend_intro ?_
 simp only [go_sem, seval]
 refine range_rule (pl := pl_81) tb_81 (SwR PS x can ref hand) (PS.length + 6 + 1) (PS.length + 6) can.length hand (PS.length + 8) (by simp) h0 h1 rfl (by kernel_rfl) (by kernel_rfl) (by kernel_rfl) (by kernel_rfl) (fun i PS' h => ?_) (fun i PS' h => ?_) (fun q => ?_) (fun i PS' lf d1 d2 hi h hg => ?_) (fun PS' q h hg => ?_)
 ·obtain ⟨L, h, _⟩ := h; exact h.gm2
 ·obtain ⟨L, h, _⟩ := h; exact h.gf
 ·refine ⟨ref, { len := hl, ext := ?_, lt := by simp, gx := ?_, gp := ?_, gn := ?_, gl := ?_, gm := ?_, gL := ?_, gf := ?_, gm2 := ?_ }, rfl⟩
  ·rw [List.append_assoc]; exact Ext.app _ _
  all_goals simp [getP, Nat.add_assoc]
 ·obtain ⟨L, h, hs⟩ := h
  have hx2 := fun q => Sees.pre hx (h.rnd q).ext.pre
  have hlt : (hand + i) % can.length < can.length := Nat.mod_lt _ (by omega)
  generalize hk : (hand + i) % can.length = k at hlt
  have hck : (can.map bL)[k]? = some [.bool can[k]] := by simp [hlt, bL]
  have hLk : (L.map bL)[k]? = some [.bool (L.getD k false)] := by have := h.len; simp [List.getD, show k < L.length by omega, bL]
  have e2 : 2 * can.length - i = (2 * can.length - (i + 1)) + 1 := by omega
  rw [e2] at hs
  have hk2 : (hand + (2 * can.length - (2 * can.length - (i + 1) + 1))) % can.length = k := by rw [← hk]; congr 2; omega
  simp only [sweepF, hk2] at hs
  have hcd : can.getD k false = can[k] := by simp [List.getD, hlt]
  rw [hcd] at hs
  have hself : ∀ q, getP (PS'.set (PS.length + 8) q) (PS.length + 8) = q := fun q => getP_set_self q (by have := h.lt; omega)
  have hset : ∀ q r, (PS'.set (PS.length + 8) q).set (PS.length + 8) r = PS'.set (PS.length + 8) r := fun q r => List.set_set ..
  cases hb : can[k] with
  | false =>
   rw [hb] at hs hck
   simp only [go_sem, seval, hg, hself, hset, (h.rnd _).gx, (h.rnd _).gl, (h.rnd _).gL, (hx2 _).ix hck, (hx2 _).ld hck]
   exact .inl ⟨L, h.rnd _, by simpa using hs⟩
  | true =>
   rw [hb] at hs hck
   cases hb2 : L.getD k false with
   | true =>
    rw [hb2] at hs hLk
    have hrow : (L.map bL).set k [.bool false] = (L.set k false).map bL := by rw [List.map_set]; rfl
    have hs5 : ∀ q r, getP ((PS'.set (PS.length + 8) q).set (PS.length + 5) r) (PS.length + 8) = q := fun q r => (getP_set_ne _ (by omega)).trans (hself q)
    have h7 := fun q => ((h.rnd q).row (L' := L.set k false) (by simp))
    have hs7 : ∀ q r t, getP (((PS'.set (PS.length + 8) q).set (PS.length + 5) r).set (PS.length + 8) t) (PS.length + 8) = t := fun q r t => getP_set_self t (by have := h.lt; simp only [List.length_set]; omega)
    simp only [go_sem, seval, hg, hself, hset, hs5, hs7, hrow, (h.rnd _).gx, (h.rnd _).gl, (h.rnd _).gL, (hx2 _).ix hck, (hx2 _).ld hck, hLk, List.length_map, h.len]
    exact ⟨hlt, hlt, .inl ⟨L.set k false, (h7 _).rnd _, by simpa using hs⟩⟩
   | false =>
    rw [hb2] at hs hLk
    have e3 : ((k : Int) + 1).tmod (can.length : Int) = ((k + 1) % can.length : Nat) := by
     rw [Int.tmod_eq_emod_of_nonneg (by omega)]; simp
    simp only [go_sem, seval, hg, hself, hset, (h.rnd _).gx, (h.rnd _).gl, (h.rnd _).gL, (h.rnd _).gm, (h.rnd _).gp, (h.rnd _).gn, (hx2 _).ix hck, (hx2 _).ld hck, hLk, e3, getP_set_ne, getP_set_self, List.length_set, h.lt, ne_eq, Nat.add_left_cancel_iff, Nat.reduceEqDiff, not_false_eq_true, Nat.add_lt_add_iff_left]
    refine ⟨hlt, ⟨by omega, by omega⟩, by omega, .inr (sw_fin (L := L) h.len ?_ ?_ ?_)⟩
    ·rw [← hs]; rfl
    ·rw [getP_set_ne _ (by omega), getP_set_ne _ (by omega), getP_set_ne _ (by omega), getP_set_ne _ (by omega), getP_set_ne _ (by omega), getP_set_ne _ (by omega)]
     exact h.gL
    ·exact Ext.out (Ext.out (Ext.out (Ext.out (Ext.out (Ext.out h.ext _ (by omega)) _ (by omega)) _ (by omega)) _ (by omega)) _ (by omega)) _ (by omega)
 ·obtain ⟨L, h, hs⟩ := h
  simp only [go_sem, seval, (h.rnd _).gp, (h.rnd _).gn, (h.rnd _).gl, getP_set_ne, getP_set_self, List.length_set, h.lt, ne_eq, Nat.add_left_cancel_iff, Nat.reduceEqDiff, not_false_eq_true, Nat.add_lt_add_iff_left]
  refine sw_fin (L := L) h.len ?_ ?_ ?_
  ·rw [← hs, Nat.sub_self]; rfl
  ·rw [getP_set_ne _ (by omega), getP_set_ne _ (by omega), getP_set_ne _ (by omega), getP_set_ne _ (by omega)]
   exact h.gL
  ·exact Ext.out (Ext.out (Ext.out (Ext.out h.ext _ (by omega)) _ (by omega)) _ (by omega)) _ (by omega)
end Go.Proofs.YtdjfdlpfchokcaaGreat
namespace Go.Proofs.YtdjfdlpfchokcaaGreat
open Go Go.Eng Go.Ow
open Go.Mo hiding SlO SlR Sees Upd isT
variable [Toks]
set_option maxRecDepth 20000
attribute [local irreducible] hvc hops hop hplan hdrawP hval1 hopD HLoop
theorem sweepF_ok (can : List Bool) (hand : Nat) : ∀ (m : Nat) (ref : List Bool), (sweepF can hand m ref).2.length = ref.length ∧ ∀ k, (sweepF can hand m ref).1 = some k → can.getD k false = true
 | 0, ref => by simp [sweepF]
 | m + 1, ref => by
  simp only [sweepF]
  split
  ·rename_i h
   split
   ·have := sweepF_ok can hand m (ref.set ((hand + (2 * can.length - (m + 1))) % can.length) false)
    exact ⟨this.1.trans (by simp), this.2⟩
   ·exact ⟨rfl, fun k hk => by simp at hk; subst hk; exact h⟩
  ·exact sweepF_ok can hand m ref
def refs (fs : List Fm) (left : List Bool) : List Fm := (fs.zip left).map fun p => { p.1 with rf := p.2 }
theorem refs_get : ∀ (fs : List Fm) (left : List Bool) (i : Nat), (refs fs left)[i]? = fs[i]?.bind fun f => left[i]?.map fun b => { f with rf := b }
 | [], left, i => by simp [refs]
 | f :: fs, [], i => by simp [refs]
 | f :: fs, b :: left, 0 => rfl
 | f :: fs, b :: left, i + 1 => by simpa [refs] using refs_get fs left i
theorem fi_map {α : Type} (p : α → Bool) (l : List α) : l.findIdx? p = (l.map p).findIdx? _root_.id := by rw [List.findIdx?_map]; rfl
theorem refs_map (b : Int) : ∀ (fs : List Fm) (left : List Bool), left.length = fs.length → (refs fs left).map (Fm.has b) = fs.map (Fm.has b)
 | [], left, _ => by simp [refs]
 | f :: fs, [], h => by simp at h
 | f :: fs, x :: left, h => by
  have := refs_map b fs left (by simpa using h)
  unfold refs at this ⊢
  simp only [List.zip_cons_cons, List.map_cons, this]
  rfl
theorem find_ev (c : Ca) (left : List Bool) (hl : left.length = c.fs.length) (k hd : Nat) : (fun b => (⟨(refs c.fs left).set k Fm.free, c.line, c.loads, hd⟩ : Ca).find b) = fun b => (c.put k Fm.free).find b := by
 funext b
 show ((refs c.fs left).set k Fm.free).findIdx? (Fm.has b) = (c.fs.set k Fm.free).findIdx? (Fm.has b)
 rw [fi_map, fi_map (Fm.has b) (c.fs.set k Fm.free), List.map_set, List.map_set, refs_map b _ _ hl]
section
variable {PS : PL} {n : Nat} {own : List Nat} {c : Ca} {B : Int}
theorem cap_evict (h : CaP PS n own c) (ok : okC B c) : HCall Tryz.prog 36 [.ptr n 0 0 0] PS fun r PS' => (∃ u, r = (match c.evict.2 with | some f => .tup [.int .i64 f.blk, .agg (nodL u f.nd), .bool f.dy, .bool true] | none => .tup [.int .i64 0, .agg (nodL ⟨true, true, true, true⟩ Nd.none), .bool false, .bool false])) ∧ CaP PS' n own c.evict.1 ∧ Upd own PS PS' own := by
 obtain ⟨X, h⟩ := h
 have hfl := ok.len
 have hmx : maxLen = 9223372036854775807 := rfl
 refine enter_36 (by unfold Tryz.f36; exact rfl) ?_
 have h0 := h.app [.arr 0 5 [[.bool false, .imm true [], .imm true [], .imm true [], .imm true []]] false]
 have hw0 := getP_last PS (.arr 0 5 [[.bool false, .imm true [], .imm true [], .imm true [], .imm true []]] false)
 have hno : ∀ q ∈ own, q < PS.length := h.lt
 have hu0 : Upd own PS (PS ++ [.arr 0 5 [[.bool false, .imm true [], .imm true [], .imm true [], .imm true []]] false]) own := ⟨(Ext.app _ _).mono (by simp), fun m hm => .inl hm⟩
 simp only [go_sem, seval, h0.hn, h0.hf]
 generalize PS ++ [.arr 0 5 [[.bool false, .imm true [], .imm true [], .imm true [], .imm true []]] false] = PS0 at h0 hw0 hu0 ⊢
 clear h
 have h := h0
 intro _
 refine pend_intro (loop_rule (α := Nat × HV × HV) [false, false, false, false, false, false, false, false, false, true, false, false, false, false, false, false, false, false, false, false, false, true, true, true, true, true, true, true, true, true, true, true, true, true, true, true, true, true, true, true, true] (fun b => [(20, .int .i64 b.1), (6, b.2.1), (7, b.2.2)]) (fun b => c.fs.length - b.1) (fun b PS' => b.1 ≤ c.fs.length ∧ Bld PS0 PS' 1 b.2.1 (((c.fs.take b.1).map Ca.can).map bL) ∧ Bld PS0 PS' 1 b.2.2 (((c.fs.take b.1).map Fm.rf).map bL) ∧ Apart b.2.1 b.2.2) (0, .imm true [], .imm true []) ⟨Nat.zero_le _, Bld.nil 1 (Ext.refl _), Bld.nil 1 (Ext.refl _), Apart.imm _⟩ ?_ ?_)
 ·simp only [go_sem, seval, Int.natCast_zero]
 ·rintro ⟨i, x, y⟩ PS1 ⟨hi, hx, hy, hxy⟩
  simp only at hi hx hy hxy
  have h1 := h.ext hx.ext
  by_cases hlt : i < c.fs.length
  ·obtain ⟨u, h3, h4⟩ := h1.row hlt
   have hfp := getP_last PS1 (.arr 0 11 [[HV.int .i64 c.fs[i].st, HV.int .i64 c.fs[i].blk, HV.int .i64 (if c.fs[i].st = 3 then c.fs[i].by_ else -1), HV.int .i64 c.fs[i].pins, HV.bool c.fs[i].rf, HV.bool c.fs[i].dy, HV.bool c.fs[i].nd.leaf, HV.imm u.a (List.map entL c.fs[i].nd.ents), HV.imm u.b (List.map kidL c.fs[i].nd.kids), HV.imm u.c (List.map keyL c.fs[i].nd.pivs), HV.imm u.d (List.map msgL c.fs[i].nd.msgs)]] false)
   have ec : ((c.fs.take (i + 1)).map Ca.can).map bL = ((c.fs.take i).map Ca.can).map bL ++ [[.bool (Ca.can c.fs[i])]] := by rw [List.take_succ_eq_append_getElem hlt]; simp only [List.map_append, List.map_cons, List.map_nil, bL]
   have ef : ((c.fs.take (i + 1)).map Fm.rf).map bL = ((c.fs.take i).map Fm.rf).map bL ++ [[.bool c.fs[i].rf]] := by rw [List.take_succ_eq_append_getElem hlt]; simp only [List.map_append, List.map_cons, List.map_nil, bL]
   have hn1 := hx.notIn (Nat.le_refl PS1.length)
   have hxl : (((c.fs.take i).map Ca.can).map bL).length ≤ 64 := by simp; omega
   have hyl : (((c.fs.take i).map Fm.rf).map bL).length ≤ 64 := by simp; omega
   have fin : ∀ cn : Bool, cn = Ca.can c.fs[i] → True := fun _ _ => trivial
   have fin : ∀ (cn : Bool), cn = Ca.can c.fs[i] → ∀ x' PS2, Bld PS0 PS2 1 x' (((c.fs.take i).map Ca.can).map bL ++ [[.bool cn]]) → Bld PS0 PS2 1 y (((c.fs.take i).map Fm.rf).map bL) → Apart x' y → ∀ Q : HV → PL → Prop, (∀ v PS3, Bld PS0 PS3 1 x' (((c.fs.take (i + 1)).map Ca.can).map bL) → Bld PS0 PS3 1 v (((c.fs.take (i + 1)).map Fm.rf).map bL) → Apart x' v → Q v PS3) → (∀ (r : List HV), r ∈ [[HV.bool c.fs[i].rf]] → r.length = 1) ∧ happ2 PS2 1 1 y [[HV.bool c.fs[i].rf]] Q := by
    intro cn hcn x' PS2 hx2 hy2 hxy2 Q hQ
    subst hcn
    refine ⟨by simp, hy2.app2 hx2 hxy2.symm (by simp) (by simp) (by simp only [hroom, List.length_cons, List.length_nil]; omega) fun v PS3 hy3 hx3 hxy3 _ => ?_⟩
    exact hQ v PS3 (by rw [ec]; exact hx3) (by rw [ef]; exact hy3) hxy3.symm
   by_cases hs2 : c.fs[i].st = 2
   ·have hcan : decide (c.fs[i].pins = 0) = Ca.can c.fs[i] := by simp [Ca.can, hs2]
    simp only [go_sem, seval, hlt, h1.hn, h1.hf, h1.rne, h4, frL, nodL, List.length_replicate, hs2]
    refine ⟨by simp, (hx.more _).app2 (hy.more _) hxy (by simp) (by simp) (by simp only [hroom, List.length_cons, List.length_nil]; omega) fun x' PS2 hx2 hy2 hxy2 hk => ?_⟩
    rw [hs2] at hfp
    have hf2 := (hk PS1.length (by simp) hn1).trans hfp
    simp only [go_sem, seval, hf2]
    refine fin _ hcan x' PS2 hx2 hy2 hxy2 _ fun v PS3 hx3 hy3 hxy3 => ?_
    exact ⟨⟨by omega, by omega⟩, (i + 1, x', v), by simp only; omega, ⟨by simp only; omega, hx3, hy3, hxy3⟩, .inl rfl, .inl rfl, rfl⟩
   ·have hcan : false = Ca.can c.fs[i] := by simp [Ca.can, hs2]
    simp only [go_sem, seval, hlt, h1.hn, h1.hf, h1.rne, h4, frL, nodL, List.length_replicate, hs2]
    refine ⟨by simp, (hx.more _).app2 (hy.more _) hxy (by simp) (by simp) (by simp only [hroom, List.length_cons, List.length_nil]; omega) fun x' PS2 hx2 hy2 hxy2 hk => ?_⟩
    have hf2 := (hk PS1.length (by simp) hn1).trans hfp
    simp only [go_sem, seval, hf2]
    refine fin _ hcan x' PS2 hx2 hy2 hxy2 _ fun v PS3 hx3 hy3 hxy3 => ?_
    exact ⟨⟨by omega, by omega⟩, (i + 1, x', v), by simp only; omega, ⟨by simp only; omega, hx3, hy3, hxy3⟩, .inl rfl, .inl rfl, rfl⟩
  ·have hii : i = c.fs.length := by omega
   rw [hii, List.take_of_length_le (Nat.le_refl _)] at hx hy
   have hu1 : Upd own PS PS1 own := hu0.trans ⟨hx.ext.mono (by simp), fun m hm => .inl hm⟩
   have hw1 := hx.ext.get hw0 (by simp)
   have hone := ok.one
   simp only [go_sem, seval, hlt, h1.hn]
   refine pend_intro ((clock_sweep PS1 x y (c.fs.map Ca.can) (c.fs.map Fm.rf) c.hand hx.sees hy.sees (by simp) (by simpa using ok.hand) (by simpa using hfl)).mono ?_)
   rintro r PS1 ⟨rfl, rfl⟩
   have hev : c.evict = (match (sweepF (c.fs.map Ca.can) c.hand (2 * (c.fs.map Ca.can).length) (c.fs.map Fm.rf)).1 with
    | some k => (⟨((c.fs.zip (sweepF (c.fs.map Ca.can) c.hand (2 * (c.fs.map Ca.can).length) (c.fs.map Fm.rf)).2).map fun p => { p.1 with rf := p.2 }).set k Fm.free, c.line, c.loads, (k + 1) % c.fs.length⟩, some (c.at_ k))
    | none => (c, none)) := by unfold Ca.evict; rw [List.length_map]; rfl
   have hsw := sweepF_ok (c.fs.map Ca.can) c.hand (2 * (c.fs.map Ca.can).length) (c.fs.map Fm.rf)
   generalize sweepF (c.fs.map Ca.can) c.hand (2 * (c.fs.map Ca.can).length) (c.fs.map Fm.rf) = sw at hev hsw ⊢
   obtain ⟨k, left⟩ := sw
   obtain ⟨hsl, hsk⟩ := hsw
   simp only [List.length_map] at hsl
   have hu2 : ∀ Q, Upd own PS (PS1.set PS.length Q) own := fun Q => ⟨hu1.1.since (Ext.set PS1 _ Q) (by simp), fun m hm => .inl hm⟩
   have hwQ : ∀ Q, getP (PS1.set PS.length Q) PS.length = Q := fun Q => getP_set_eq Q hw1
   cases k with
   | none =>
    have hev : c.evict = (c, none) := hev
    rw [hev]
    have hk : ∀ Q, CaAt (PS1.set PS.length Q) n own c.raw X := fun Q => h1.keep (fun q hq => getP_set_ne _ (by
     rintro rfl
     have := hno _ hq; omega)) (by simp)
    simp only [go_sem, seval, hw1, hwQ]
    exact ⟨⟨⟨true, true, true, true⟩, rfl⟩, ⟨X, hk _⟩, hu2 _⟩
   | some k =>
    have hev : c.evict = (⟨(refs c.fs left).set k Fm.free, c.line, c.loads, (k + 1) % c.fs.length⟩, some (c.at_ k)) := hev
    have hkc := hsk k rfl
    have hkl : k < c.fs.length := by
     rcases Nat.lt_or_ge k c.fs.length with h | h
     ·exact h
     ·simp [List.getD, List.getElem?_eq_none h] at hkc
    have hkst : c.fs[k].st = 2 := by
     simp [List.getD, hkl, Ca.can] at hkc; exact hkc.1
    have hkk : ¬ (k : Int) < 0 := by omega
    simp only [go_sem, seval, hkk, h1.hn, h1.hf]
    intro _
    refine pend_intro (loop_rule (α := Nat) [false, false, false, false, false, false, false, false, false, false, false, false, false, true, false, false, false, false, false, false, false, false, false, false, false, false, false, false, false, false, false, false, false, false, false, false, false, false, false, false, false, false, false, false, false, false, false, false, false, false, false, false, false, false, false, false, false, false, false, false, false, true, true, true, true, true, true, true, true, true, true, true, true, true, true] (fun b => [(60, .int .i64 b)]) (fun b => c.fs.length - b) (fun b PS' => b ≤ c.fs.length ∧ Upd own PS PS' own ∧ getP PS' PS.length = .arr 0 5 [[.bool false, .imm true [], .imm true [], .imm true [], .imm true []]] false ∧ ∃ X', CaAt PS' n own { c.raw with fs := refs (c.fs.take b) left ++ c.fs.drop b } X' ∧ X'.pf = X.pf ∧ X'.vf = X.vf) 0 ⟨Nat.zero_le _, hu1, hw1, X, by simpa [refs] using h1, rfl, rfl⟩ ?_ ?_)
    ·simp only [go_sem, seval, Int.natCast_zero]
    ·rintro j PS2 ⟨hj, hu2', hw2, X2, h2, e1, e2⟩
     have hlen : (refs (c.fs.take j) left ++ c.fs.drop j).length = c.fs.length := by simp [refs]; omega
     have hn2 := h2.hn
     have hf2 := h2.hf
     rw [hlen, e1, e2] at hn2
     rw [e1, e2] at hf2
     by_cases hlt : j < c.fs.length
     ·have hgj : (refs (c.fs.take j) left ++ c.fs.drop j)[j]? = some c.fs[j] := by
       rw [List.getElem?_append_right (by simp [refs]; omega)]
       have : (refs (c.fs.take j) left).length = j := by simp [refs]; omega
       rw [this, Nat.sub_self, List.getElem?_drop, Nat.add_zero]
       simp [hlt]
      obtain ⟨u, h3, h4⟩ := rowsF_get (ts := X2.ts) (i := j) (by rw [h2.fs]; exact hgj)
      have hlj : j < left.length := by omega
      have hlg : (left.map bL)[j]? = some [.bool left[j]] := by rw [List.getElem?_map]; simp [hlj, bL]
      have hstep : (refs (c.fs.take j) left ++ c.fs.drop j).set j { c.fs[j] with rf := left[j] } = refs (c.fs.take (j + 1)) left ++ c.fs.drop (j + 1) := by
       refine List.ext_getElem? fun i => ?_
       by_cases hi : i = j
       ·subst hi
        rw [List.getElem?_set_self (by rw [hlen]; exact hlt), List.getElem?_append_left (by simp [refs]; omega)]
        rw [refs_get]
        simp [hlt, hlj]
       ·rw [List.getElem?_set_ne (Ne.symm hi)]
        by_cases hij : i < j
        ·rw [List.getElem?_append_left (by simp [refs]; omega), List.getElem?_append_left (by simp [refs]; omega)]
         rw [refs_get, refs_get]
         simp [List.getElem?_take, hij, show i < j + 1 by omega]
        ·have l1 : (refs (c.fs.take j) left).length = j := by simp [refs]; omega
         have l2 : (refs (c.fs.take (j + 1)) left).length = j + 1 := by simp [refs]; omega
         rw [List.getElem?_append_right (by omega), List.getElem?_append_right (by omega), l1, l2, List.getElem?_drop, List.getElem?_drop]
         congr 1; omega
      have h5 := h2.setF j u { c.fs[j] with rf := left[j] }
      rw [e1, e2] at h5
      have hwf : X.pf ≠ PS.length := fun e => by have := hno _ h1.mf; omega
      simp only [go_sem, seval, hlt, hn2, hf2, h2.rne, h4, hlg, frL, nodL]
      refine ⟨⟨by omega, by omega⟩, j + 1, by omega, ⟨by omega, hu2'.trans ⟨(Ext.set PS2 _ _).mono (by simp [h1.mf]), fun m hm => .inl hm⟩, (getP_set_ne _ hwf).trans hw2, ?_⟩, rfl⟩
      rw [← hstep]
      exact ⟨_, h5, rfl, rfl⟩
     ·have hjj : j = c.fs.length := by omega
      have h2' : CaAt PS2 n own { c.raw with fs := refs c.fs left } X2 := by
       rw [hjj, List.take_of_length_le (Nat.le_refl _), List.drop_of_length_le (Nat.le_refl _), List.append_nil] at h2
       exact h2
      have hrl : (refs c.fs left).length = c.fs.length := by simp [refs]; omega
      have hkr : k < (refs c.fs left).length := by omega
      have hgk : (refs c.fs left)[k]? = some { c.fs[k] with rf := left[k]'(by omega) } := by
       have : k < left.length := by omega
       rw [refs_get]
       simp [hkl, this]
      obtain ⟨u, h3, h4⟩ := rowsF_get (ts := X2.ts) (i := k) (by rw [h2'.fs]; exact hgk)
      have hn3 := fun l => (getP_app' l (getP_lt hn2)).trans hn2
      have hf3 := fun l => (getP_app' l (getP_lt hf2)).trans hf2
      have hw3 := fun l => (getP_app' l (getP_lt hw2)).trans hw2
      have hq3 := fun q => getP_last PS2 q
      simp only [go_sem, seval, hlt, hn2, hf2, h2'.rne, h4, frL, nodL, hkl, List.length_replicate, hn3, hf3, hq3]
      refine pend_intro (ca_empty.to ?_)
      have d1 : ¬ X.pf = n := fun e => by have := h2'.n_f; rw [e1] at this; exact this e.symm
      have d2 : ¬ X.pf = X2.pa := fun e => by have := h2'.f_a; rw [e1] at this; exact this e
      have d3 : ¬ X.pf = PS2.length := fun e => by have := getP_lt hf2; omega
      have d4 : ¬ n = X2.pa := fun e => h2'.n_a e
      have d5 : ¬ n = PS2.length := fun e => by have := getP_lt hn2; omega
      have d6 : ¬ X2.pa = PS2.length := fun e => by have := getP_map_lt h2'.ha; omega
      have d7 : ¬ X2.pa = PS.length := fun e => by rw [← e, h2'.ha] at hw2; cases hw2
      have d8 : ¬ n = PS.length := fun e => by have := hno _ h1.mn; omega
      have d9 : ¬ X.pf = PS.length := fun e => by have := hno _ h1.mf; omega
      have da : ¬ PS2.length = PS.length := fun e => by have := getP_lt hw2; omega
      have db : ¬ PS.length = PS2.length := fun e => da e.symm
      have l1 : n < PS2.length + 1 := by have := getP_lt hn2; omega
      have l2 : PS.length < PS2.length + 1 := by have := getP_lt hw2; omega
      have ha3 := fun l => (getP_app' l (getP_map_lt h2'.ha)).trans h2'.ha
      simp only [go_sem, seval, hlt, hn2, hf2, h2'.rne, h4, frL, nodL, Fm.free, Nd.none, hkl, List.length_replicate, hn3, hf3, hq3, hw3, ha3, getP_set_ne, d1, d2, d3, d4, d5, d6, d7, d8, d9, da, getP_set_self, List.length_set, List.length_append, List.length_cons, List.length_nil, l1, l2, db]
      rw [hev]
      have hgf : c.at_ k = c.fs[k] := at_eq hkl
      simp only [hgf]
      have hkb : (c.fs[k]).has (c.fs[k]).blk = true := has_iff.2 ⟨rfl, .inr hkst⟩
      have s1 := (h2'.app [.arr 0 11 [[HV.int .i64 c.fs[k].st, HV.int .i64 c.fs[k].blk, HV.int .i64 (if c.fs[k].st = 3 then c.fs[k].by_ else -1), HV.int .i64 c.fs[k].pins, HV.bool left[k], HV.bool c.fs[k].dy, HV.bool c.fs[k].nd.leaf, HV.imm u.a (List.map entL c.fs[k].nd.ents), HV.imm u.b (List.map kidL c.fs[k].nd.kids), HV.imm u.c (List.map keyL c.fs[k].nd.pivs), HV.imm u.d (List.map msgL c.fs[k].nd.msgs)]] false]).setF k ⟨true, true, true, true⟩ Fm.free
      have s2 := s1.setHand ((k + 1) % c.fs.length)
      obtain ⟨X5, s3, s4⟩ := s2.delA c.fs[k].blk
      have s5 := s3.keep (PS' := List.set _ PS.length (.arr 0 5 [[HV.bool c.fs[k].nd.leaf, HV.imm u.a (List.map entL c.fs[k].nd.ents), HV.imm u.b (List.map kidL c.fs[k].nd.kids), HV.imm u.c (List.map keyL c.fs[k].nd.pivs), HV.imm u.d (List.map msgL c.fs[k].nd.msgs)]] false)) (fun q hq => getP_set_ne _ (by rintro rfl; have := hno _ hq; omega)) (by simp)
      have hfg := find_gone (f := Fm.free) ok hkl hkb (by decide)
      have hfe := (find_ev c left (by omega) k ((k + 1) % c.fs.length)).trans hfg
      have key : ∀ P, CaAt P n own ⟨(refs c.fs left).set k Fm.free, fun b' => if b' = c.fs[k].blk then none else c.find b', tasksOf c.loads, c.line, (k + 1) % c.fs.length⟩ X5 → CaP P n own ⟨(refs c.fs left).set k Fm.free, c.line, c.loads, (k + 1) % c.fs.length⟩ := fun P hP => ⟨X5, by
       have : (⟨(refs c.fs left).set k Fm.free, c.line, c.loads, (k + 1) % c.fs.length⟩ : Ca).raw = ⟨(refs c.fs left).set k Fm.free, fun b => (⟨(refs c.fs left).set k Fm.free, c.line, c.loads, (k + 1) % c.fs.length⟩ : Ca).find b, tasksOf c.loads, c.line, (k + 1) % c.fs.length⟩ := rfl
       rw [this, hfe]; exact hP⟩
      simp only [e1, e2, List.length_set, hrl] at s5
      exact ⟨⟨u, rfl⟩, key _ s5, ((((hu2'.more _).set _ (.inl h1.mf)).set _ (.inl h1.mn)).set _ (.inl h2'.ma')).set _ (.inr (Nat.le_refl _))⟩
end
@[go_sem ↓, go_sem] theorem hpc_ref (n v : Nat) (C : List HV → Prop) : hpc (.ref n v) C = C [.ref n v] := by simp [hpc, HV.one, hvcells]
@[go_sem ↓, go_sem] theorem one_ref (n v : Nat) : HV.one (.ref n v) = true := _root_.id rfl
def Ca.new (n : Nat) : Ca := ⟨List.replicate n Fm.free, [], [], 0⟩
theorem ca_new_no (n : Int) (hn : n < 1 ∨ 64 < n) : Pure Tryz.prog 18 [.int .i64 n] (.tup [.cst (.pointer none), .int .i64 1]) := by
 intro PS
 refine enter_18 (by unfold Tryz.f18; exact rfl) ?_
 by_cases h1 : n < 1
 ·simp only [go_sem, seval, h1]
 ·have h2 : 64 < n := by omega
  simp only [go_sem, seval, h1, h2]
theorem ca_new (PS : PL) (n : Nat) (h1 : 1 ≤ n) (h2 : n ≤ 64) : HCall Tryz.prog 18 [.int .i64 n] PS fun r PS' => ∃ p own, r = .tup [.ptr p 0 0 0, .int .i64 0] ∧ CaP PS' p own (Ca.new n) ∧ Ext [] PS PS' ∧ ∀ q ∈ own, PS.length ≤ q := by
  have e1 : ¬ (n : Int) < 1 := by omega
  have e2 : ¬ 64 < (n : Int) := by omega
  refine enter_18 (by unfold Tryz.f18; exact rfl) ?_
  simp only [go_sem, seval, -List.reduceReplicate, e1, e2]
  refine pend_intro (loop_rule (α := Nat) [false, false, false, false, false, false, false, false, false, false, false, false, false, false, false, false, false, true, true, true, true, true, true, true, true, true, true, true, true] (fun b => [(16, .int .i64 b)]) (fun b => n - b) (fun b PS' => b ≤ n ∧ ∃ x o, getP PS' (PS.length + 2) = .arr 0 5 [[x, .ref PS.length 0, .ref (PS.length + 1) 0, .imm true [], .int .i64 0]] false ∧ getP PS' PS.length = .map 0 0 .i64 [] ∧ getP PS' (PS.length + 1) = .map 0 0 .i64 [] ∧ SlE PS' 11 x o (rowsF (List.replicate b (⟨true, true, true, true⟩, Fm.free))) ∧ (∀ q ∈ o, PS.length + 3 ≤ q) ∧ Ext [] PS PS') 0 ⟨Nat.zero_le _, .imm true [], [], by simp [getP, List.getD], by simp [getP, List.getD], by simp [getP, List.getD], SlE.nil _ _, by simp, Ext.app _ _⟩ ?_ ?_)
  · simp only [go_sem, seval, -List.reduceReplicate, Int.natCast_zero]
  · rintro i PS1 ⟨hi, x, o, hp, ha, hl, hs, ho, he⟩
    by_cases hlt : i < n
    · simp only [go_sem, seval, -List.reduceReplicate, hlt, hp]
      refine pend_intro (ca_empty.to ?_)
      simp only [go_sem, seval, -List.reduceReplicate, hp]
      have hrl : (rowsF (List.replicate i ((⟨true, true, true, true⟩ : Fl), Fm.free))).length = i := by simp [rowsF]
      have hrs : rowsF (List.replicate (i + 1) ((⟨true, true, true, true⟩ : Fl), Fm.free)) = rowsF (List.replicate i (⟨true, true, true, true⟩, Fm.free)) ++ [frL ⟨true, true, true, true⟩ Fm.free] := by
        rw [List.replicate_succ', rowsF, rowsF, List.map_append]; rfl
      have hlp := getP_lt hp
      have hno2 : ∀ k, k < 3 → PS.length + k ∉ o := fun k hk hm => by have := ho _ hm; omega
      have hones : ones (frL ⟨true, true, true, true⟩ Fm.free) := (ones_iff _).2 (fun y hy => by
        simp only [frL, nodL, Fm.free, Nd.none, List.mem_cons, List.not_mem_nil, or_false, List.map_nil] at hy
        rcases hy with rfl | rfl | rfl | rfl | rfl | rfl | rfl | rfl | rfl | rfl | rfl <;> rfl)
      refine ⟨hones, rfl, by intro r hr; simp at hr; subst hr; rfl, hs.app (by intro r hr; simp at hr; subst hr; rfl) (by simp) (by rw [hrl]; simp [hroom]; omega) fun x' PS2 o' hs2 hu h1 => ?_⟩
      have hp2 := (hu.1.2 (PS.length + 2) hlp (hno2 2 (by omega))).trans hp
      have ha2 := (hu.1.2 PS.length (by omega) (hno2 0 (by omega))).trans ha
      have hl2 := (hu.1.2 (PS.length + 1) (by omega) (hno2 1 (by omega))).trans hl
      simp only [go_sem, seval, -List.reduceReplicate, hp2, hst_one h1]
      have ho' : ∀ q ∈ o', PS.length + 3 ≤ q := fun q hq => by
        rcases hu.2 q hq with h | h
        · exact ho q h
        · omega
      refine ⟨⟨by omega, by omega⟩, i + 1, by omega, ⟨by omega, x', o', getP_set_eq _ hp2, (getP_set_ne _ (by omega)).trans ha2, (getP_set_ne _ (by omega)).trans hl2, ?_, ho', ?_⟩, rfl⟩
      · rw [hrs]
        exact hs2.keep fun q hq => getP_set_ne _ (by have := ho' q hq; omega)
      · exact (he.since hu.1 fun q hq => .inr (by have := ho q hq; omega)).since (Ext.set _ _ _) (by intro q hq; simp at hq; omega)
    · have hin : i = n := by omega
      simp only [go_sem, seval, -List.reduceReplicate, hlt]
      subst hin
      rcases hs.1 with ⟨h0, _⟩ | ⟨hR, pf, vf, rfl, hg, rfl⟩
      · exfalso
        have : (rowsF (List.replicate i ((⟨true, true, true, true⟩ : Fl), Fm.free))).length = i := by simp [rowsF]
        rw [h0] at this; simp at this; omega
      · have hrl : (rowsF (List.replicate i ((⟨true, true, true, true⟩ : Fl), Fm.free))).length = i := by simp [rowsF]
        rw [hrl] at hp
        have hpf := ho pf (by simp)
        refine ⟨PS.length + 2, [PS.length, PS.length + 1, PS.length + 2, pf], rfl, ⟨⟨fun q => if q = PS.length + 2 then 0 else if q = PS.length then 2 else if q = PS.length + 1 then 3 else 1, pf, vf, List.replicate i (⟨true, true, true, true⟩, Fm.free), PS.length, 0, [], PS.length + 1, 0, [], fun _ => [], .imm true [], []⟩, ?_⟩, he, by intro q hq; simp at hq; omega⟩
        exact {
          hn := by simpa [Ca.new] using hp
          hf := hg
          fs := by simp [Ca.new]
          ne := by simp [Ca.new]; omega
          ha := ha
          oka := MapOk.nil
          ma := fun b => by
            have : (Ca.new i).raw.at_ b = none := List.findIdx?_eq_none_iff.2 fun f hf => by
              have := List.eq_of_mem_replicate hf
              subst this; simp [Fm.has, Fm.free]
            rw [this]; rfl
          hl := hl
          okl := MapOk.nil
          ml := fun b => SlO.nil _ _
          line := SlO.nil _ _
          cn := by simp
          cf := by have h1 : ¬ pf = PS.length + 2 := by omega
                   have h2 : ¬ pf = PS.length := by omega
                   have h3 : ¬ pf = PS.length + 1 := by omega
                   simp [h1, h2, h3]
          ca := by simp
          cl := by simp
          co := by simp
          cb := by simp
          mn := by simp
          mf := by simp
          ma' := by simp
          ml' := by simp
          mo := by simp
          mb := by simp
          lt := by
            have h1 := getP_lt hp
            have h2 := getP_lt hg
            intro q hq; simp at hq; omega }
end Go.Proofs.YtdjfdlpfchokcaaGreat
namespace Go.Ow
open Go Go.Eng Go.Mo
variable [Toks]
def Ca.rds (c : Ca) (b : Int) : Option Int := (c.find b).bind fun i => if (c.at_ i).st = 1 then some (c.at_ i).by_ else none
theorem rds_same {c c' : Ca} (h1 : ∀ b, c'.find b = c.find b) (h2 : ∀ b i, c.find b = some i → (c'.at_ i).st = (c.at_ i).st ∧ (c'.at_ i).by_ = (c.at_ i).by_) : c'.rds = c.rds := by
 funext b
 unfold Ca.rds
 rw [h1 b]
 cases hf : c.find b with
 | none => rfl
 | some i =>
  obtain ⟨a, b⟩ := h2 b i hf
  simp only [Option.bind_some, a, b]
theorem at_put_eq {c : Ca} {i : Nat} (h : i < c.fs.length) (f : Fm) : (c.put i f).at_ i = f := by simp [Ca.put, Ca.at_, List.getD, h]
theorem at_put_ne {c : Ca} {i j : Nat} (h : i ≠ j) (f : Fm) : (c.put i f).at_ j = c.at_ j := by simp [Ca.put, Ca.at_, List.getD, h]
theorem rds_put {c : Ca} {i : Nat} {f : Fm} (h : i < c.fs.length) (h1 : f.blk = c.fs[i].blk) (h2 : f.st = c.fs[i].st) (h3 : f.by_ = c.fs[i].by_) : (c.put i f).rds = c.rds := by
 refine rds_same (fun b => congrFun (find_same h h1 (by rw [h2])) b) fun b j hj => ?_
 by_cases hij : i = j
 ·subst hij; rw [at_put_eq h, at_eq h]; exact ⟨h2, h3⟩
 ·rw [at_put_ne hij]; exact ⟨rfl, rfl⟩
theorem rds_new {c : Ca} {i : Nat} {f : Fm} {b : Int} (h : i < c.fs.length) (h1 : f.has b = true) (h0 : c.fs[i].st ≠ 1 ∧ c.fs[i].st ≠ 2) (hn : c.find b = none) : (c.put i f).rds = fun b' => if b' = b then (if f.st = 1 then some f.by_ else none) else c.rds b' := by
 funext b'
 unfold Ca.rds
 have hf := congrFun (find_new h h1 h0 hn) b'
 rw [hf]
 by_cases hb : b' = b
 ·rw [if_pos hb, if_pos hb, Option.bind_some, at_put_eq h]
 ·rw [if_neg hb, if_neg hb]
  cases hc : c.find b' with
  | none => rfl
  | some j =>
   have hij : i ≠ j := by
    rintro rfl
    obtain ⟨hi, hh⟩ := find_some hc
    rcases (has_iff.1 hh).2 with h5 | h5
    ·exact h0.1 h5
    ·exact h0.2 h5
   simp only [Option.bind_some, at_put_ne hij]
theorem takes_some' {c : Ca} {t : Int} {k : Nat} (h : c.takes t = some k) : ∃ hk : k < c.fs.length, c.fs[k].st = 0 := by
 unfold Ca.takes at h
 split at h
 ·obtain ⟨hk, h1, _⟩ := List.findIdx?_eq_some_iff_getElem.1 h
  exact ⟨hk, by simpa using h1⟩
 ·cases h
theorem rds_ask (c : Ca) (t b : Int) : (c.ask t b).rds = c.rds := by unfold Ca.ask; split <;> rfl
theorem rds_leave (c : Ca) (t : Int) : (c.leave t).rds = c.rds := rfl
theorem rds_pin (c : Ca) (t b : Int) : (c.pin t b).1.rds = if (c.pin t b).2 = 3 then (fun b' => if b' = b then some t else c.rds b') else c.rds := by
 cases hb : isB b with
 | false =>
  have e : c.pin t b = (c, 0) := by unfold Ca.pin; rw [hb]; rfl
  rw [e]; rfl
 | true =>
  cases hm : c.mayW t b with
  | false =>
   have e : c.pin t b = (c, 0) := by unfold Ca.pin; rw [hb, hm]; rfl
   rw [e]; rfl
  | true =>
   cases hp : c.find b with
   | some i =>
    obtain ⟨hi, _⟩ := find_some hp
    have e := pin_some (t := t) hb hm hp hi
    have hr := rds_put (c := c) (i := i) (f := { c.fs[i] with pins := c.fs[i].pins + 1, rf := true }) hi rfl rfl rfl
    by_cases hst : c.fs[i].st = 2
    ·rw [e.trans (if_pos hst)]
     exact (rds_leave _ _).trans hr
    ·rw [e.trans (if_neg hst)]
     exact hr
   | none =>
    cases hk : c.takes t with
    | none =>
     have e : c.pin t b = (c.ask t b, 4) := by unfold Ca.pin; rw [hb, hm, hp, hk]; rfl
     rw [e]; exact rds_ask c t b
    | some k =>
     obtain ⟨hk1, hk2⟩ := takes_some' hk
     have e : c.pin t b = ((c.put k ⟨1, b, 1, t, true, false, Nd.none⟩).leave t, 3) := by unfold Ca.pin; rw [hb, hm, hp, hk]; rfl
     rw [e]
     show (c.put k ⟨1, b, 1, t, true, false, Nd.none⟩).rds = _
     rw [rds_new (b := b) hk1 (has_iff.2 ⟨rfl, .inl rfl⟩) (by rw [hk2]; decide) hp]
     rfl
theorem rds_fill (c : Ca) (b : Int) (d : Nd) : (c.fill b d).1.rds = fun b' => if b' = b then none else c.rds b' := by
 unfold Ca.fill
 cases hp : c.find b with
 | none =>
  funext b'
  by_cases hb : b' = b
  ·subst hb; simp [Ca.rds, hp]
  ·simp [hb]
 | some i =>
  obtain ⟨hi, hh⟩ := find_some hp
  by_cases hst : (c.at_ i).st = 1
  ·simp only [if_pos hst]
   funext b'
   have h1 : ∀ l ld hd, (⟨(c.put i { c.at_ i with st := 2, nd := d }).fs, l, ld, hd⟩ : Ca).rds = (c.put i { c.at_ i with st := 2, nd := d }).rds := fun _ _ _ => rfl
   rw [h1]
   have hfs : (fun b' => (c.put i { c.at_ i with st := 2, nd := d }).find b') = c.find := find_same hi (by rw [at_eq hi]) (by rw [at_eq hi] at hst; simp [hst])
   unfold Ca.rds
   rw [congrFun hfs b']
   by_cases hb : b' = b
   ·subst hb; rw [hp, Option.bind_some, at_put_eq hi]; simp
   ·rw [if_neg hb]
    cases hc : c.find b' with
    | none => rfl
    | some j =>
     have hij : i ≠ j := by
      rintro rfl
      obtain ⟨_, h2⟩ := find_some hc
      exact hb ((has_iff.1 h2).1.symm.trans (has_iff.1 hh).1)
     simp only [Option.bind_some, at_put_ne hij]
  ·simp only [if_neg hst]
   funext b'
   by_cases hb : b' = b
   ·subst hb; simp [Ca.rds, hp, hst]
   ·simp [hb]
theorem rds_unpin (c : Ca) (b : Int) : (c.unpin b).1.rds = c.rds := by
 unfold Ca.unpin
 cases hr : c.ready b with
 | none => rfl
 | some i =>
  obtain ⟨hi, _⟩ := find_some (Option.filter_eq_some_iff.1 hr).1
  simp only
  split
  ·rfl
  ·exact rds_put hi (by rw [at_eq hi]) (by rw [at_eq hi]) (by rw [at_eq hi])
theorem rds_set (c : Ca) (b : Int) (d : Nd) : (c.set_ b d).1.rds = c.rds := by
 unfold Ca.set_
 cases hr : c.ready b with
 | none => rfl
 | some i =>
  obtain ⟨hi, _⟩ := find_some (Option.filter_eq_some_iff.1 hr).1
  exact rds_put hi (by rw [at_eq hi]) (by rw [at_eq hi]) (by rw [at_eq hi])
end Go.Ow
