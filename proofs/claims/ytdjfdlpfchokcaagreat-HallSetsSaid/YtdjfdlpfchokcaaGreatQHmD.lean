/-
The law HallSets, walked.
No conditions.
-/
import Derived.Test.YtdjfdlpfchokcaaGreatQHmC
import Derived.Test.YtdjfdlpfchokcaaGreatQHm1
set_option linter.unusedSectionVars false
set_option linter.unusedSimpArgs false
set_option linter.unusedVariables false
namespace Go.Proofs.YtdjfdlpfchokcaaGreat
open Go Go.Eng Go.Ow
open Go.Mo hiding SlO SlR Sees Upd isT
variable [Toks]
set_option maxRecDepth 20000
attribute [local irreducible] hvc hops hop hplan hdrawP hval1 hopD HLoop
def h3 (W : Bool) : Ha := ((((Ha.new 1 2).pin 0 0).1.load 0 0).1.take 0 0 W).1
theorem s_pin : ((Ha.new 1 2).pin 0 0).2 = 3 := rfl
def h4 (W F : Bool) (d : Nd) : Ha := if W && F then { h3 true with ca := ((h3 true).ca.set_ 0 d).1 } else h3 W
theorem s_set (W F : Bool) (d : Nd) (hF : tt (nodFits d) = F) : (h3 W).set_ 0 0 d = (h4 W F d, W && F) := by
 cases W with
 | false => cases F <;> (unfold Ha.set_; rfl)
 | true =>
  have : (h3 true).set_ 0 0 d = if tt (nodFits d) then ({ h3 true with ca := ((h3 true).ca.set_ 0 d).1 }, ((h3 true).ca.set_ 0 d).2) else (h3 true, false) := by unfold Ha.set_; rfl
  rw [this, hF]
  cases F <;> rfl
theorem s_set1 (W F : Bool) (d e : Nd) : (h4 W F d).set_ 1 0 e = (h4 W F d, false) := by
 cases W <;> cases F <;> (unfold Ha.set_; rfl)
def dOf (W F : Bool) (d : Nd) : Nd := if W && F then d else Ha.leaf0
theorem s_look (W F : Bool) (d : Nd) : (h4 W F d).look 0 = (dOf W F d, true) := by cases W <;> cases F <;> rfl
def h6 (W F : Bool) (d : Nd) : Ha := ((h4 W F d).leave 0 0).1
theorem s_look6 (W F : Bool) (d : Nd) : (h6 W F d).look 0 = (dOf W F d, true) := by cases W <;> cases F <;> rfl
theorem s_idle6 (W F : Bool) (d : Nd) : (h6 W F d).idle = true := by cases W <;> cases F <;> rfl
theorem s_ev (W F : Bool) (d : Nd) : (h6 W F d).evict.2 = some 0 := by cases W <;> cases F <;> kernel_rfl
theorem s_free (W F : Bool) (d : Nd) : (h6 W F d).evict.1.ca.frees = 2 := by cases W <;> cases F <;> kernel_rfl
theorem s_look7 (W F : Bool) (d : Nd) : (h6 W F d).evict.1.look 0 = (dOf W F d, true) := by cases W <;> cases F <;> kernel_rfl
theorem s_idle7 (W F : Bool) (d : Nd) : (h6 W F d).evict.1.idle = true := by cases W <;> cases F <;> kernel_rfl
structure Bx (PS PS' : PL) (own : List Nat) (q : Nat) (P : Piece) : Prop where
 ext : Ext [] PS PS'
 out : ∀ m ∈ own, PS.length ≤ m
 at_ : getP PS' q = P
 ql : q < PS'.length
 qn : q ∉ own
 q0 : PS.length ≤ q
theorem up_ext {PS PS1 PS2 : PL} {own own2 : List Nat} (h : Ext [] PS PS1 ∧ ∀ m ∈ own, PS.length ≤ m) (hu : Ow.Upd own PS1 PS2 own2) : Ext [] PS PS2 ∧ ∀ m ∈ own2, PS.length ≤ m :=
 ⟨h.1.since hu.1 fun m hm => .inr (h.2 m hm), fun m hm => by
  rcases hu.2 m hm with h1 | h1
  ·exact h.2 m h1
  ·exact Nat.le_trans h.1.1 h1⟩
theorem Bx.step {PS PS1 PS2 : PL} {own own2 : List Nat} {q : Nat} {P : Piece} (h : Bx PS PS1 own q P) (hu : Ow.Upd own PS1 PS2 own2) : Bx PS PS2 own2 q P where
 ext := h.ext.since hu.1 fun m hm => .inr (h.out m hm)
 out := fun m hm => by
  rcases hu.2 m hm with h1 | h1
  ·exact h.out m h1
  ·exact Nat.le_trans h.ext.1 h1
 at_ := (hu.1.2 q h.ql h.qn).trans h.at_
 ql := Nat.lt_of_lt_of_le h.ql hu.1.1
 qn := fun hm => by
  rcases hu.2 q hm with h1 | h1
  ·exact h.qn h1
  ·have := h.ql; omega
 q0 := h.q0
theorem Bx.app {PS PS1 : PL} {own : List Nat} {q : Nat} {P : Piece} (h : Bx PS PS1 own q P) (l : PL) : Bx PS (PS1 ++ l) own q P where
 ext := h.ext.trans (Ext.app _ _)
 out := h.out
 at_ := (getP_app' _ h.ql).trans h.at_
 ql := by rw [List.length_append]; have := h.ql; omega
 qn := h.qn
 q0 := h.q0
theorem Bx.set {PS PS1 : PL} {own : List Nat} {q : Nat} {P : Piece} (h : Bx PS PS1 own q P) (Q : Piece) : Bx PS (PS1.set q Q) own q Q where
 ext := h.ext.since (Ext.set _ q Q) fun m hm => by simp at hm; subst hm; exact .inr h.q0
 out := h.out
 at_ := getP_set_self _ h.ql
 ql := by simpa using h.ql
 qn := h.qn
 q0 := h.q0
theorem HaP.set {PS : PL} {p : Nat} {own : List Nat} {h : Ha} (h1 : HaP PS p own h) {q : Nat} (Q : Piece) (hq : q ∉ own) : HaP (PS.set q Q) p own h := by
 obtain ⟨X, h1⟩ := h1
 exact ⟨X, h1.keep (fun m hm => getP_set_ne _ fun e => hq (e ▸ hm)) (by simp)⟩
theorem hdr5 (t : Fl) (d : Nd) : List.drop 5 (nodL t d) = [] := List.drop_of_length_le (by rw [nodL_len]; omega)
theorem HaP.app {PS : PL} {p : Nat} {own : List Nat} {h : Ha} (h1 : HaP PS p own h) (l : PL) : HaP (PS ++ l) p own h := by
 obtain ⟨X, h1⟩ := h1
 exact ⟨X, h1.app l⟩
theorem none_unfit : ¬ nodFits Nd.none := fun h => by
 have := h.1
 unfold nodOk at this
 have := this.2.1.few
 simp [Nd.none] at this
set_option maxHeartbeats 1000000 in
theorem hall_sets (aw : Pure Tryz.prog 16 [] (.bool true)) (n : Int) (W F E : Bool) (PS : PL) : HCall Tryz.prog 3 [.int .i64 n, .bool W, .bool F, .bool E] PS fun r PS' => r = .bool true ∧ Ext [] PS PS' := by
 refine enter_3 (by unfold Tryz.f3; exact rfl) ?_
 simp only [go_sem, seval]
 refine pend_intro ((ha_new _ 1 2 (by omega) (by omega) (by omega) (by omega)).mono ?_)
 rintro _ PS1 ⟨p, own, rfl, hp, hx, hl⟩
 have ok0 : okH 0 (Ha.new 1 2) := okH.new (by omega) (by omega) (by omega) (by omega)
 have lv : ∀ {PS : PL} {h : Ha} {own : List Nat}, HaP PS p own h → hlive (getP PS p) 0 := fun h => by
  obtain ⟨X, hX⟩ := h
  rw [hX.hn]; exact ⟨rfl, .inl rfl⟩
 simp only [go_sem, seval]
 refine ⟨lv hp, pend_intro ((ha_pin hp ok0 (by omega) 0 0).mono ?_)⟩
 rintro _ PS2 ⟨rfl, own2, hp2, hu2⟩
 rw [s_pin]
 simp only [go_sem, seval]
 refine pend_intro ((ha_load hp2 (okH.pin ok0 0 0) 0 0).mono ?_)
 rintro _ PS3 ⟨⟨u, rfl⟩, own3, hp3, hu3⟩
 simp only [go_sem, seval]
 refine pend_intro ((ha_take hp3 (okH.load (okH.pin ok0 0 0) 0 0) 0 0 W).mono ?_)
 rintro _ PS4 ⟨rfl, own4, hp4, hu4⟩
 obtain ⟨tl, hleaf⟩ := gen_leaf true [n, 8] (by simp)
 have ok3 : okH 1 (h3 W) := okH.take (okH.load (okH.pin ok0 0 0) 0 0) 0 0 W
 change HaP PS4 p own4 (h3 W) at hp4
 have hdok := leafOf_ok [n, 8] (by simp)
 simp only [go_sem, seval]
 refine pend_intro (hleaf.call ?_)
 have hx4 : Ext [] PS PS4 ∧ ∀ m ∈ own4, PS.length ≤ m := up_ext (up_ext (up_ext ⟨hx, hl⟩ hu2) hu3) hu4
 cases W with
 | true =>
  cases F with
  | true =>
   have dok := hdok.1
   simp only [go_sem, seval, ones_nod, nodL_len, List.drop_of_length_le, List.append_nil]
   have hp5 := hp4.app [.arr 0 5 [nodL tl (leafOf [n, 8])] false]
   have b5 : Bx PS (PS4 ++ [.arr 0 5 [nodL tl (leafOf [n, 8])] false]) own4 PS4.length (.arr 0 5 [nodL tl (leafOf [n, 8])] false) := ⟨hx4.1.trans (Ext.app _ _), hx4.2, getP_last _ _, by simp, fun hm => by obtain ⟨X, hX⟩ := hp4; have := hX.lt _ hm; omega, hx4.1.1⟩
   generalize PS4 ++ [.arr 0 5 [nodL tl (leafOf [n, 8])] false] = PS5 at hp5 b5 ⊢
   have hF : tt (nodFits (leafOf [n, 8])) = true := tt_true hdok.2
   refine pend_intro ((ha_set hp5 ok3 0 0 tl (leafOf [n, 8]) dok).mono ?_)
   rintro _ PS6 ⟨rfl, own6, hp6, hu6⟩
   rw [s_set true true _ hF] at hp6 ⊢
   have b6 := b5.step hu6
   have ok6 : okH 1 (h4 true true (leafOf [n, 8])) := by have := okH.set_ ok3 0 0 dok; rw [s_set true true _ hF] at this; exact this
   simp only at hp6 ⊢
   simp only [go_sem, seval, b6.at_, nodL_len]
   refine pend_intro ((ha_set hp6 ok6 1 0 tl (leafOf [n, 8]) dok).mono ?_)
   rintro _ PS7 ⟨rfl, own7, hp7, hu7⟩
   rw [s_set1] at hp7 ⊢
   have b7 := b6.step hu7
   simp only at hp7 ⊢
   simp only [go_sem, seval, b7.at_, nodL_len, hdr5, Bool.and_true, Bool.true_and, Bool.and_false, Bool.false_and, Bool.not_true, Bool.not_false]
   have hp8 := hp7
   have b8 := b7
   have dok8 : okN (dOf true true (leafOf [n, 8])) := by first | exact dok | exact leaf0_fit.1
   obtain ⟨X8, hX8⟩ := hp8
   refine pend_intro ((ha_look hX8 ok6 0).mono ?_)
   rintro _ PS9 ⟨⟨u9, rfl⟩, rfl⟩
   rw [s_look]
   simp only [go_sem, seval, ones_nod, nodL_len]
   have b9 := b8.app [.arr 0 5 [nodL u9 (dOf true true (leafOf [n, 8]))] false]
   have c9 : Bx PS (PS9 ++ [.arr 0 5 [nodL u9 (dOf true true (leafOf [n, 8]))] false]) own7 PS9.length (.arr 0 5 [nodL u9 (dOf true true (leafOf [n, 8]))] false) := ⟨b9.ext, b9.out, getP_last _ _, by simp, fun hm => by have := hX8.lt _ hm; omega, b8.ext.1⟩
   have hp9 := HaP.app ⟨X8, hX8⟩ [.arr 0 5 [nodL u9 (dOf true true (leafOf [n, 8]))] false]
   refine pend_intro ((ha_leave hp9 ok6 (by omega) 0 0).mono ?_)
   rintro _ PS10 ⟨⟨u10, rfl⟩, own10, hp10, hu10⟩
   have b10 := b9.step hu10
   have c10 := c9.step hu10
   have ok10 : okH 1 (h6 true true (leafOf [n, 8])) := okH.leave ok6 0 0
   change HaP PS10 p own10 (h6 true true (leafOf [n, 8])) at hp10
   cases E with
   | true =>
    simp only [go_sem, seval]
    refine pend_intro ((ha_evict hp10 ok10).mono ?_)
    rintro _ PS11 ⟨rfl, own11, hp11, hu11⟩
    rw [s_ev]
    have b11 := b10.step hu11
    have c11 := c10.step hu11
    have ok11 := okH.evict ok10
    obtain ⟨X11, hX11⟩ := hp11
    simp only [go_sem, seval]
    refine pend_intro ((ha_free hX11 ok11).mono ?_)
    rintro _ PS12 ⟨rfl, rfl⟩
    rw [s_free]
    simp only [go_sem, seval]
    refine pend_intro ((ha_look hX11 ok11 0).mono ?_)
    rintro _ PS13 ⟨⟨u13, rfl⟩, rfl⟩
    rw [s_look7]
    simp only [go_sem, seval, ones_nod, nodL_len, (b11.app [.arr 0 5 [nodL u13 (dOf true true (leafOf [n, 8]))] false]).at_, (c11.app [.arr 0 5 [nodL u13 (dOf true true (leafOf [n, 8]))] false]).at_, getP_last]
    refine pend_intro ((rnode_same tl u9 (leafOf [n, 8]) (dOf true true (leafOf [n, 8])) dok8).call ?_)
    rw [decide_eq_true (show (leafOf [n, 8]) = dOf true true (leafOf [n, 8]) from rfl)]
    simp only [go_sem, seval, nodL_len, getP_last, (b11.app [.arr 0 5 [nodL u13 (dOf true true (leafOf [n, 8]))] false]).at_]
    refine pend_intro ((rnode_same tl u13 (leafOf [n, 8]) (dOf true true (leafOf [n, 8])) dok8).call ?_)
    rw [decide_eq_true (show (leafOf [n, 8]) = dOf true true (leafOf [n, 8]) from rfl)]
    simp only [go_sem, seval]
    refine pend_intro ((ha_idle (hX11.app [.arr 0 5 [nodL u13 (dOf true true (leafOf [n, 8]))] false]) ok11).mono ?_)
    rintro _ PS14 ⟨rfl, rfl⟩
    rw [s_idle7]
    simp only [go_sem, seval]
    refine pend_intro (aw.call ?_)
    simp only [go_sem, seval]
    exact (b11.app _).ext
   | false =>
    obtain ⟨X10, hX10⟩ := hp10
    simp only [go_sem, seval]
    refine pend_intro ((ha_look hX10 ok10 0).mono ?_)
    rintro _ PS13 ⟨⟨u13, rfl⟩, rfl⟩
    rw [s_look6]
    simp only [go_sem, seval, ones_nod, nodL_len, (b10.app [.arr 0 5 [nodL u13 (dOf true true (leafOf [n, 8]))] false]).at_, (c10.app [.arr 0 5 [nodL u13 (dOf true true (leafOf [n, 8]))] false]).at_, getP_last]
    refine pend_intro ((rnode_same tl u9 (leafOf [n, 8]) (dOf true true (leafOf [n, 8])) dok8).call ?_)
    rw [decide_eq_true (show (leafOf [n, 8]) = dOf true true (leafOf [n, 8]) from rfl)]
    simp only [go_sem, seval, nodL_len, getP_last, (b10.app [.arr 0 5 [nodL u13 (dOf true true (leafOf [n, 8]))] false]).at_]
    refine pend_intro ((rnode_same tl u13 (leafOf [n, 8]) (dOf true true (leafOf [n, 8])) dok8).call ?_)
    rw [decide_eq_true (show (leafOf [n, 8]) = dOf true true (leafOf [n, 8]) from rfl)]
    simp only [go_sem, seval]
    refine pend_intro ((ha_idle (hX10.app [.arr 0 5 [nodL u13 (dOf true true (leafOf [n, 8]))] false]) ok10).mono ?_)
    rintro _ PS14 ⟨rfl, rfl⟩
    rw [s_idle6]
    simp only [go_sem, seval]
    refine pend_intro (aw.call ?_)
    simp only [go_sem, seval]
    exact (b10.app _).ext
  | false =>
   have dok := none_ok
   simp only [go_sem, seval, ones_nod, nodL_len, hdr5, List.append_nil]
   have hp5 := hp4.app [.arr 0 5 [nodL ⟨true, true, true, true⟩ Nd.none] false]
   have b5 : Bx PS (PS4 ++ [.arr 0 5 [nodL ⟨true, true, true, true⟩ Nd.none] false]) own4 PS4.length (.arr 0 5 [nodL ⟨true, true, true, true⟩ Nd.none] false) := ⟨hx4.1.trans (Ext.app _ _), hx4.2, getP_last _ _, by simp, fun hm => by obtain ⟨X, hX⟩ := hp4; have := hX.lt _ hm; omega, hx4.1.1⟩
   have hz : [HV.bool false, HV.imm true [], HV.imm true [], HV.imm true [], HV.imm true []] = nodL ⟨true, true, true, true⟩ Nd.none := rfl
   rw [hz]
   generalize PS4 ++ [.arr 0 5 [nodL ⟨true, true, true, true⟩ Nd.none] false] = PS5 at hp5 b5 ⊢
   have hF : tt (nodFits Nd.none) = false := tt_false none_unfit
   refine pend_intro ((ha_set hp5 ok3 0 0 ⟨true, true, true, true⟩ Nd.none dok).mono ?_)
   rintro _ PS6 ⟨rfl, own6, hp6, hu6⟩
   rw [s_set true false _ hF] at hp6 ⊢
   have b6 := b5.step hu6
   have ok6 : okH 1 (h4 true false Nd.none) := by have := okH.set_ ok3 0 0 dok; rw [s_set true false _ hF] at this; exact this
   simp only at hp6 ⊢
   simp only [go_sem, seval, b6.at_, nodL_len]
   refine pend_intro ((ha_set hp6 ok6 1 0 ⟨true, true, true, true⟩ Nd.none dok).mono ?_)
   rintro _ PS7 ⟨rfl, own7, hp7, hu7⟩
   rw [s_set1] at hp7 ⊢
   have b7 := b6.step hu7
   simp only at hp7 ⊢
   simp only [go_sem, seval, b7.at_, nodL_len, hdr5, Bool.and_true, Bool.true_and, Bool.and_false, Bool.false_and, Bool.not_true, Bool.not_false]
   have hz8 : [HV.bool true, HV.imm true [], HV.imm true [], HV.imm true [], HV.imm true []] = nodL ⟨true, true, true, true⟩ Ha.leaf0 := rfl
   rw [hz8]
   have hp8 := hp7.set (.arr 0 5 [nodL ⟨true, true, true, true⟩ Ha.leaf0] false) b7.qn
   have b8 := b7.set (.arr 0 5 [nodL ⟨true, true, true, true⟩ Ha.leaf0] false)
   generalize PS7.set PS4.length (.arr 0 5 [nodL ⟨true, true, true, true⟩ Ha.leaf0] false) = PS8 at hp8 b8 ⊢
   have dok8 : okN (dOf true false Nd.none) := by first | exact dok | exact leaf0_fit.1
   obtain ⟨X8, hX8⟩ := hp8
   refine pend_intro ((ha_look hX8 ok6 0).mono ?_)
   rintro _ PS9 ⟨⟨u9, rfl⟩, rfl⟩
   rw [s_look]
   simp only [go_sem, seval, ones_nod, nodL_len]
   have b9 := b8.app [.arr 0 5 [nodL u9 (dOf true false Nd.none)] false]
   have c9 : Bx PS (PS9 ++ [.arr 0 5 [nodL u9 (dOf true false Nd.none)] false]) own7 PS9.length (.arr 0 5 [nodL u9 (dOf true false Nd.none)] false) := ⟨b9.ext, b9.out, getP_last _ _, by simp, fun hm => by have := hX8.lt _ hm; omega, b8.ext.1⟩
   have hp9 := HaP.app ⟨X8, hX8⟩ [.arr 0 5 [nodL u9 (dOf true false Nd.none)] false]
   refine pend_intro ((ha_leave hp9 ok6 (by omega) 0 0).mono ?_)
   rintro _ PS10 ⟨⟨u10, rfl⟩, own10, hp10, hu10⟩
   have b10 := b9.step hu10
   have c10 := c9.step hu10
   have ok10 : okH 1 (h6 true false Nd.none) := okH.leave ok6 0 0
   change HaP PS10 p own10 (h6 true false Nd.none) at hp10
   cases E with
   | true =>
    simp only [go_sem, seval]
    refine pend_intro ((ha_evict hp10 ok10).mono ?_)
    rintro _ PS11 ⟨rfl, own11, hp11, hu11⟩
    rw [s_ev]
    have b11 := b10.step hu11
    have c11 := c10.step hu11
    have ok11 := okH.evict ok10
    obtain ⟨X11, hX11⟩ := hp11
    simp only [go_sem, seval]
    refine pend_intro ((ha_free hX11 ok11).mono ?_)
    rintro _ PS12 ⟨rfl, rfl⟩
    rw [s_free]
    simp only [go_sem, seval]
    refine pend_intro ((ha_look hX11 ok11 0).mono ?_)
    rintro _ PS13 ⟨⟨u13, rfl⟩, rfl⟩
    rw [s_look7]
    simp only [go_sem, seval, ones_nod, nodL_len, (b11.app [.arr 0 5 [nodL u13 (dOf true false Nd.none)] false]).at_, (c11.app [.arr 0 5 [nodL u13 (dOf true false Nd.none)] false]).at_, getP_last]
    refine pend_intro ((rnode_same ⟨true, true, true, true⟩ u9 Ha.leaf0 (dOf true false Nd.none) dok8).call ?_)
    rw [decide_eq_true (show Ha.leaf0 = dOf true false Nd.none from rfl)]
    simp only [go_sem, seval, nodL_len, getP_last, (b11.app [.arr 0 5 [nodL u13 (dOf true false Nd.none)] false]).at_]
    refine pend_intro ((rnode_same ⟨true, true, true, true⟩ u13 Ha.leaf0 (dOf true false Nd.none) dok8).call ?_)
    rw [decide_eq_true (show Ha.leaf0 = dOf true false Nd.none from rfl)]
    simp only [go_sem, seval]
    refine pend_intro ((ha_idle (hX11.app [.arr 0 5 [nodL u13 (dOf true false Nd.none)] false]) ok11).mono ?_)
    rintro _ PS14 ⟨rfl, rfl⟩
    rw [s_idle7]
    simp only [go_sem, seval]
    refine pend_intro (aw.call ?_)
    simp only [go_sem, seval]
    exact (b11.app _).ext
   | false =>
    obtain ⟨X10, hX10⟩ := hp10
    simp only [go_sem, seval]
    refine pend_intro ((ha_look hX10 ok10 0).mono ?_)
    rintro _ PS13 ⟨⟨u13, rfl⟩, rfl⟩
    rw [s_look6]
    simp only [go_sem, seval, ones_nod, nodL_len, (b10.app [.arr 0 5 [nodL u13 (dOf true false Nd.none)] false]).at_, (c10.app [.arr 0 5 [nodL u13 (dOf true false Nd.none)] false]).at_, getP_last]
    refine pend_intro ((rnode_same ⟨true, true, true, true⟩ u9 Ha.leaf0 (dOf true false Nd.none) dok8).call ?_)
    rw [decide_eq_true (show Ha.leaf0 = dOf true false Nd.none from rfl)]
    simp only [go_sem, seval, nodL_len, getP_last, (b10.app [.arr 0 5 [nodL u13 (dOf true false Nd.none)] false]).at_]
    refine pend_intro ((rnode_same ⟨true, true, true, true⟩ u13 Ha.leaf0 (dOf true false Nd.none) dok8).call ?_)
    rw [decide_eq_true (show Ha.leaf0 = dOf true false Nd.none from rfl)]
    simp only [go_sem, seval]
    refine pend_intro ((ha_idle (hX10.app [.arr 0 5 [nodL u13 (dOf true false Nd.none)] false]) ok10).mono ?_)
    rintro _ PS14 ⟨rfl, rfl⟩
    rw [s_idle6]
    simp only [go_sem, seval]
    refine pend_intro (aw.call ?_)
    simp only [go_sem, seval]
    exact (b10.app _).ext
 | false =>
  cases F with
  | true =>
   have dok := hdok.1
   simp only [go_sem, seval, ones_nod, nodL_len, List.drop_of_length_le, List.append_nil]
   have hp5 := hp4.app [.arr 0 5 [nodL tl (leafOf [n, 8])] false]
   have b5 : Bx PS (PS4 ++ [.arr 0 5 [nodL tl (leafOf [n, 8])] false]) own4 PS4.length (.arr 0 5 [nodL tl (leafOf [n, 8])] false) := ⟨hx4.1.trans (Ext.app _ _), hx4.2, getP_last _ _, by simp, fun hm => by obtain ⟨X, hX⟩ := hp4; have := hX.lt _ hm; omega, hx4.1.1⟩
   generalize PS4 ++ [.arr 0 5 [nodL tl (leafOf [n, 8])] false] = PS5 at hp5 b5 ⊢
   have hF : tt (nodFits (leafOf [n, 8])) = true := tt_true hdok.2
   refine pend_intro ((ha_set hp5 ok3 0 0 tl (leafOf [n, 8]) dok).mono ?_)
   rintro _ PS6 ⟨rfl, own6, hp6, hu6⟩
   rw [s_set false true _ hF] at hp6 ⊢
   have b6 := b5.step hu6
   have ok6 : okH 1 (h4 false true (leafOf [n, 8])) := by have := okH.set_ ok3 0 0 dok; rw [s_set false true _ hF] at this; exact this
   simp only at hp6 ⊢
   simp only [go_sem, seval, b6.at_, nodL_len]
   refine pend_intro ((ha_set hp6 ok6 1 0 tl (leafOf [n, 8]) dok).mono ?_)
   rintro _ PS7 ⟨rfl, own7, hp7, hu7⟩
   rw [s_set1] at hp7 ⊢
   have b7 := b6.step hu7
   simp only at hp7 ⊢
   simp only [go_sem, seval, b7.at_, nodL_len, hdr5, Bool.and_true, Bool.true_and, Bool.and_false, Bool.false_and, Bool.not_true, Bool.not_false]
   have hz8 : [HV.bool true, HV.imm true [], HV.imm true [], HV.imm true [], HV.imm true []] = nodL ⟨true, true, true, true⟩ Ha.leaf0 := rfl
   rw [hz8]
   have hp8 := hp7.set (.arr 0 5 [nodL ⟨true, true, true, true⟩ Ha.leaf0] false) b7.qn
   have b8 := b7.set (.arr 0 5 [nodL ⟨true, true, true, true⟩ Ha.leaf0] false)
   generalize PS7.set PS4.length (.arr 0 5 [nodL ⟨true, true, true, true⟩ Ha.leaf0] false) = PS8 at hp8 b8 ⊢
   have dok8 : okN (dOf false true (leafOf [n, 8])) := by first | exact dok | exact leaf0_fit.1
   obtain ⟨X8, hX8⟩ := hp8
   refine pend_intro ((ha_look hX8 ok6 0).mono ?_)
   rintro _ PS9 ⟨⟨u9, rfl⟩, rfl⟩
   rw [s_look]
   simp only [go_sem, seval, ones_nod, nodL_len]
   have b9 := b8.app [.arr 0 5 [nodL u9 (dOf false true (leafOf [n, 8]))] false]
   have c9 : Bx PS (PS9 ++ [.arr 0 5 [nodL u9 (dOf false true (leafOf [n, 8]))] false]) own7 PS9.length (.arr 0 5 [nodL u9 (dOf false true (leafOf [n, 8]))] false) := ⟨b9.ext, b9.out, getP_last _ _, by simp, fun hm => by have := hX8.lt _ hm; omega, b8.ext.1⟩
   have hp9 := HaP.app ⟨X8, hX8⟩ [.arr 0 5 [nodL u9 (dOf false true (leafOf [n, 8]))] false]
   refine pend_intro ((ha_leave hp9 ok6 (by omega) 0 0).mono ?_)
   rintro _ PS10 ⟨⟨u10, rfl⟩, own10, hp10, hu10⟩
   have b10 := b9.step hu10
   have c10 := c9.step hu10
   have ok10 : okH 1 (h6 false true (leafOf [n, 8])) := okH.leave ok6 0 0
   change HaP PS10 p own10 (h6 false true (leafOf [n, 8])) at hp10
   cases E with
   | true =>
    simp only [go_sem, seval]
    refine pend_intro ((ha_evict hp10 ok10).mono ?_)
    rintro _ PS11 ⟨rfl, own11, hp11, hu11⟩
    rw [s_ev]
    have b11 := b10.step hu11
    have c11 := c10.step hu11
    have ok11 := okH.evict ok10
    obtain ⟨X11, hX11⟩ := hp11
    simp only [go_sem, seval]
    refine pend_intro ((ha_free hX11 ok11).mono ?_)
    rintro _ PS12 ⟨rfl, rfl⟩
    rw [s_free]
    simp only [go_sem, seval]
    refine pend_intro ((ha_look hX11 ok11 0).mono ?_)
    rintro _ PS13 ⟨⟨u13, rfl⟩, rfl⟩
    rw [s_look7]
    simp only [go_sem, seval, ones_nod, nodL_len, (b11.app [.arr 0 5 [nodL u13 (dOf false true (leafOf [n, 8]))] false]).at_, (c11.app [.arr 0 5 [nodL u13 (dOf false true (leafOf [n, 8]))] false]).at_, getP_last]
    refine pend_intro ((rnode_same ⟨true, true, true, true⟩ u9 Ha.leaf0 (dOf false true (leafOf [n, 8])) dok8).call ?_)
    rw [decide_eq_true (show Ha.leaf0 = dOf false true (leafOf [n, 8]) from rfl)]
    simp only [go_sem, seval, nodL_len, getP_last, (b11.app [.arr 0 5 [nodL u13 (dOf false true (leafOf [n, 8]))] false]).at_]
    refine pend_intro ((rnode_same ⟨true, true, true, true⟩ u13 Ha.leaf0 (dOf false true (leafOf [n, 8])) dok8).call ?_)
    rw [decide_eq_true (show Ha.leaf0 = dOf false true (leafOf [n, 8]) from rfl)]
    simp only [go_sem, seval]
    refine pend_intro ((ha_idle (hX11.app [.arr 0 5 [nodL u13 (dOf false true (leafOf [n, 8]))] false]) ok11).mono ?_)
    rintro _ PS14 ⟨rfl, rfl⟩
    rw [s_idle7]
    simp only [go_sem, seval]
    refine pend_intro (aw.call ?_)
    simp only [go_sem, seval]
    exact (b11.app _).ext
   | false =>
    obtain ⟨X10, hX10⟩ := hp10
    simp only [go_sem, seval]
    refine pend_intro ((ha_look hX10 ok10 0).mono ?_)
    rintro _ PS13 ⟨⟨u13, rfl⟩, rfl⟩
    rw [s_look6]
    simp only [go_sem, seval, ones_nod, nodL_len, (b10.app [.arr 0 5 [nodL u13 (dOf false true (leafOf [n, 8]))] false]).at_, (c10.app [.arr 0 5 [nodL u13 (dOf false true (leafOf [n, 8]))] false]).at_, getP_last]
    refine pend_intro ((rnode_same ⟨true, true, true, true⟩ u9 Ha.leaf0 (dOf false true (leafOf [n, 8])) dok8).call ?_)
    rw [decide_eq_true (show Ha.leaf0 = dOf false true (leafOf [n, 8]) from rfl)]
    simp only [go_sem, seval, nodL_len, getP_last, (b10.app [.arr 0 5 [nodL u13 (dOf false true (leafOf [n, 8]))] false]).at_]
    refine pend_intro ((rnode_same ⟨true, true, true, true⟩ u13 Ha.leaf0 (dOf false true (leafOf [n, 8])) dok8).call ?_)
    rw [decide_eq_true (show Ha.leaf0 = dOf false true (leafOf [n, 8]) from rfl)]
    simp only [go_sem, seval]
    refine pend_intro ((ha_idle (hX10.app [.arr 0 5 [nodL u13 (dOf false true (leafOf [n, 8]))] false]) ok10).mono ?_)
    rintro _ PS14 ⟨rfl, rfl⟩
    rw [s_idle6]
    simp only [go_sem, seval]
    refine pend_intro (aw.call ?_)
    simp only [go_sem, seval]
    exact (b10.app _).ext
  | false =>
   have dok := none_ok
   simp only [go_sem, seval, ones_nod, nodL_len, hdr5, List.append_nil]
   have hp5 := hp4.app [.arr 0 5 [nodL ⟨true, true, true, true⟩ Nd.none] false]
   have b5 : Bx PS (PS4 ++ [.arr 0 5 [nodL ⟨true, true, true, true⟩ Nd.none] false]) own4 PS4.length (.arr 0 5 [nodL ⟨true, true, true, true⟩ Nd.none] false) := ⟨hx4.1.trans (Ext.app _ _), hx4.2, getP_last _ _, by simp, fun hm => by obtain ⟨X, hX⟩ := hp4; have := hX.lt _ hm; omega, hx4.1.1⟩
   have hz : [HV.bool false, HV.imm true [], HV.imm true [], HV.imm true [], HV.imm true []] = nodL ⟨true, true, true, true⟩ Nd.none := rfl
   rw [hz]
   generalize PS4 ++ [.arr 0 5 [nodL ⟨true, true, true, true⟩ Nd.none] false] = PS5 at hp5 b5 ⊢
   have hF : tt (nodFits Nd.none) = false := tt_false none_unfit
   refine pend_intro ((ha_set hp5 ok3 0 0 ⟨true, true, true, true⟩ Nd.none dok).mono ?_)
   rintro _ PS6 ⟨rfl, own6, hp6, hu6⟩
   rw [s_set false false _ hF] at hp6 ⊢
   have b6 := b5.step hu6
   have ok6 : okH 1 (h4 false false Nd.none) := by have := okH.set_ ok3 0 0 dok; rw [s_set false false _ hF] at this; exact this
   simp only at hp6 ⊢
   simp only [go_sem, seval, b6.at_, nodL_len]
   refine pend_intro ((ha_set hp6 ok6 1 0 ⟨true, true, true, true⟩ Nd.none dok).mono ?_)
   rintro _ PS7 ⟨rfl, own7, hp7, hu7⟩
   rw [s_set1] at hp7 ⊢
   have b7 := b6.step hu7
   simp only at hp7 ⊢
   simp only [go_sem, seval, b7.at_, nodL_len, hdr5, Bool.and_true, Bool.true_and, Bool.and_false, Bool.false_and, Bool.not_true, Bool.not_false]
   have hz8 : [HV.bool true, HV.imm true [], HV.imm true [], HV.imm true [], HV.imm true []] = nodL ⟨true, true, true, true⟩ Ha.leaf0 := rfl
   rw [hz8]
   have hp8 := hp7.set (.arr 0 5 [nodL ⟨true, true, true, true⟩ Ha.leaf0] false) b7.qn
   have b8 := b7.set (.arr 0 5 [nodL ⟨true, true, true, true⟩ Ha.leaf0] false)
   generalize PS7.set PS4.length (.arr 0 5 [nodL ⟨true, true, true, true⟩ Ha.leaf0] false) = PS8 at hp8 b8 ⊢
   have dok8 : okN (dOf false false Nd.none) := by first | exact dok | exact leaf0_fit.1
   obtain ⟨X8, hX8⟩ := hp8
   refine pend_intro ((ha_look hX8 ok6 0).mono ?_)
   rintro _ PS9 ⟨⟨u9, rfl⟩, rfl⟩
   rw [s_look]
   simp only [go_sem, seval, ones_nod, nodL_len]
   have b9 := b8.app [.arr 0 5 [nodL u9 (dOf false false Nd.none)] false]
   have c9 : Bx PS (PS9 ++ [.arr 0 5 [nodL u9 (dOf false false Nd.none)] false]) own7 PS9.length (.arr 0 5 [nodL u9 (dOf false false Nd.none)] false) := ⟨b9.ext, b9.out, getP_last _ _, by simp, fun hm => by have := hX8.lt _ hm; omega, b8.ext.1⟩
   have hp9 := HaP.app ⟨X8, hX8⟩ [.arr 0 5 [nodL u9 (dOf false false Nd.none)] false]
   refine pend_intro ((ha_leave hp9 ok6 (by omega) 0 0).mono ?_)
   rintro _ PS10 ⟨⟨u10, rfl⟩, own10, hp10, hu10⟩
   have b10 := b9.step hu10
   have c10 := c9.step hu10
   have ok10 : okH 1 (h6 false false Nd.none) := okH.leave ok6 0 0
   change HaP PS10 p own10 (h6 false false Nd.none) at hp10
   cases E with
   | true =>
    simp only [go_sem, seval]
    refine pend_intro ((ha_evict hp10 ok10).mono ?_)
    rintro _ PS11 ⟨rfl, own11, hp11, hu11⟩
    rw [s_ev]
    have b11 := b10.step hu11
    have c11 := c10.step hu11
    have ok11 := okH.evict ok10
    obtain ⟨X11, hX11⟩ := hp11
    simp only [go_sem, seval]
    refine pend_intro ((ha_free hX11 ok11).mono ?_)
    rintro _ PS12 ⟨rfl, rfl⟩
    rw [s_free]
    simp only [go_sem, seval]
    refine pend_intro ((ha_look hX11 ok11 0).mono ?_)
    rintro _ PS13 ⟨⟨u13, rfl⟩, rfl⟩
    rw [s_look7]
    simp only [go_sem, seval, ones_nod, nodL_len, (b11.app [.arr 0 5 [nodL u13 (dOf false false Nd.none)] false]).at_, (c11.app [.arr 0 5 [nodL u13 (dOf false false Nd.none)] false]).at_, getP_last]
    refine pend_intro ((rnode_same ⟨true, true, true, true⟩ u9 Ha.leaf0 (dOf false false Nd.none) dok8).call ?_)
    rw [decide_eq_true (show Ha.leaf0 = dOf false false Nd.none from rfl)]
    simp only [go_sem, seval, nodL_len, getP_last, (b11.app [.arr 0 5 [nodL u13 (dOf false false Nd.none)] false]).at_]
    refine pend_intro ((rnode_same ⟨true, true, true, true⟩ u13 Ha.leaf0 (dOf false false Nd.none) dok8).call ?_)
    rw [decide_eq_true (show Ha.leaf0 = dOf false false Nd.none from rfl)]
    simp only [go_sem, seval]
    refine pend_intro ((ha_idle (hX11.app [.arr 0 5 [nodL u13 (dOf false false Nd.none)] false]) ok11).mono ?_)
    rintro _ PS14 ⟨rfl, rfl⟩
    rw [s_idle7]
    simp only [go_sem, seval]
    refine pend_intro (aw.call ?_)
    simp only [go_sem, seval]
    exact (b11.app _).ext
   | false =>
    obtain ⟨X10, hX10⟩ := hp10
    simp only [go_sem, seval]
    refine pend_intro ((ha_look hX10 ok10 0).mono ?_)
    rintro _ PS13 ⟨⟨u13, rfl⟩, rfl⟩
    rw [s_look6]
    simp only [go_sem, seval, ones_nod, nodL_len, (b10.app [.arr 0 5 [nodL u13 (dOf false false Nd.none)] false]).at_, (c10.app [.arr 0 5 [nodL u13 (dOf false false Nd.none)] false]).at_, getP_last]
    refine pend_intro ((rnode_same ⟨true, true, true, true⟩ u9 Ha.leaf0 (dOf false false Nd.none) dok8).call ?_)
    rw [decide_eq_true (show Ha.leaf0 = dOf false false Nd.none from rfl)]
    simp only [go_sem, seval, nodL_len, getP_last, (b10.app [.arr 0 5 [nodL u13 (dOf false false Nd.none)] false]).at_]
    refine pend_intro ((rnode_same ⟨true, true, true, true⟩ u13 Ha.leaf0 (dOf false false Nd.none) dok8).call ?_)
    rw [decide_eq_true (show Ha.leaf0 = dOf false false Nd.none from rfl)]
    simp only [go_sem, seval]
    refine pend_intro ((ha_idle (hX10.app [.arr 0 5 [nodL u13 (dOf false false Nd.none)] false]) ok10).mono ?_)
    rintro _ PS14 ⟨rfl, rfl⟩
    rw [s_idle6]
    simp only [go_sem, seval]
    refine pend_intro (aw.call ?_)
    simp only [go_sem, seval]
    exact (b10.app _).ext
theorem ha_new_no (PS : PL) (b f : Int) (hf : f < 1 ∨ 64 < f) (hb1 : 1 ≤ b) (hb2 : b ≤ 256) : HCall Tryz.prog 4 [.int .i64 b, .int .i64 f] PS fun r PS' => r = .tup [.cst (.pointer none), .int .i64 1] ∧ Ext [] PS PS' := by
 obtain ⟨m, rfl⟩ : ∃ m : Nat, b = m := ⟨b.toNat, by omega⟩
 refine enter_4 (by unfold Tryz.f4; exact rfl) ?_
 simp only [go_sem, seval]
 refine pend_intro ((P_New PS m (by omega) (by omega)).mono ?_)
 rintro _ PS1 ⟨ps, os, rfl, he1, ho1, hs1⟩
 simp only [go_sem, seval]
 refine pend_intro ((ca_new_no f hf).call ?_)
 simp only [go_sem, seval]
 exact he1
def k1 : Ha := ((Ha.new 2 1).pin 0 0).1
def k2 : Ha := (k1.load 0 0).1
def k3 : Ha := (k2.take 0 0 true).1
def k4 : Ha := (k3.take 1 0 false).1
def k5 : Ha := (k4.leave 0 0).1
theorem k_pin : ((Ha.new 2 1).pin 0 0).2 = 3 := by kernel_rfl
theorem k_load : (k1.load 0 0).2 = ([], true) := by kernel_rfl
theorem k_take : (k2.take 0 0 true).2 = true := by kernel_rfl
theorem k_take1 : (k3.take 1 0 false).2 = false := by kernel_rfl
theorem k_may : k4.may 1 = false := by kernel_rfl
theorem k_leave : (k4.leave 0 0).2 = [1] := by kernel_rfl
theorem k_look : k5.look 0 = (Ha.leaf0, true) := by kernel_rfl
theorem k_may1 : k5.may 1 = true := by kernel_rfl
theorem k_idle : k5.idle = false := by kernel_rfl
theorem k_pin1 : (k5.pin 0 1).2 = 0 := by kernel_rfl
theorem k_used : k5.shelf.used = [0] := by kernel_rfl
theorem k_left : k5.shelf.left = 1 := by kernel_rfl
theorem awake17 : Pure Tryz.prog 16 [] (.bool true) := Pure.of_ext (.bool _) fun PS => by
 refine enter_16 (by unfold Tryz.f16; simp only [List.append]; exact rfl) ?_
 simp only [go_sem, seval]
 refine pend_intro ((ha_new _ 2 1 (by omega) (by omega) (by omega) (by omega)).mono ?_)
 rintro _ PS1 ⟨p, own, rfl, hp, hx, hl⟩
 have ok0 : okH 0 (Ha.new 2 1) := okH.new (by omega) (by omega) (by omega) (by omega)
 have lv : ∀ {PS : PL} {h : Ha} {own : List Nat}, HaP PS p own h → hlive (getP PS p) 0 := fun h => by
  obtain ⟨X, hX⟩ := h
  rw [hX.hn]; exact ⟨rfl, .inl rfl⟩
 simp only [go_sem, seval]
 refine pend_intro ((ha_new_no PS1 1 0 (by omega) (by omega) (by omega)).mono ?_)
 rintro _ PS2 ⟨rfl, hx2⟩
 have hp2 : HaP PS2 p own (Ha.new 2 1) := by
  obtain ⟨X, hX⟩ := hp
  exact ⟨X, hX.ext hx2⟩
 simp only [go_sem, seval]
 refine ⟨lv hp2, pend_intro ((ha_pin hp2 ok0 (by omega) 0 0).mono ?_)⟩
 rintro _ PS3 ⟨rfl, own3, hp3, hu3⟩
 rw [k_pin]
 have ok1 : okH 1 k1 := okH.pin ok0 0 0
 change HaP PS3 p own3 k1 at hp3
 simp only [go_sem, seval]
 refine pend_intro ((ha_load hp3 ok1 0 0).mono ?_)
 rintro _ PS4 ⟨⟨u4, rfl⟩, own4, hp4, hu4⟩
 rw [k_load]
 have ok2 : okH 1 k2 := okH.load ok1 0 0
 change HaP PS4 p own4 k2 at hp4
 simp only [go_sem, seval]
 refine pend_intro ((ha_take hp4 ok2 0 0 true).mono ?_)
 rintro _ PS5 ⟨rfl, own5, hp5, hu5⟩
 rw [k_take]
 have ok3 : okH 1 k3 := okH.take ok2 0 0 true
 change HaP PS5 p own5 k3 at hp5
 simp only [go_sem, seval]
 refine pend_intro ((ha_take hp5 ok3 1 0 false).mono ?_)
 rintro _ PS6 ⟨rfl, own6, hp6, hu6⟩
 rw [k_take1]
 have ok4 : okH 1 k4 := okH.take ok3 1 0 false
 change HaP PS6 p own6 k4 at hp6
 obtain ⟨X6, hX6⟩ := hp6
 simp only [go_sem, seval]
 refine pend_intro ((ha_may hX6 ok4 1).mono ?_)
 rintro _ _ ⟨rfl, rfl⟩
 rw [k_may]
 simp only [go_sem, seval]
 refine pend_intro ((ha_leave ⟨X6, hX6⟩ ok4 (by omega) 0 0).mono ?_)
 rintro _ PS7 ⟨⟨u7, rfl⟩, own7, hp7, hu7⟩
 rw [k_leave]
 have ok5 : okH 1 k5 := okH.leave ok4 0 0
 change HaP PS7 p own7 k5 at hp7
 have hx7 : Ext [] PS PS7 ∧ ∀ m ∈ own7, PS.length ≤ m := up_ext (up_ext (up_ext (up_ext (up_ext ⟨hx.trans hx2, hl⟩ hu3) hu4) hu5) hu6) hu7
 obtain ⟨X7, hX7⟩ := hp7
 simp only [go_sem, seval]
 refine pend_intro ((ha_look hX7 ok5 0).mono ?_)
 rintro _ PS7 ⟨⟨u8, rfl⟩, rfl⟩
 rw [k_look]
 have hX8 := hX7.app [.arr 0 5 [nodL u8 Ha.leaf0] false]
 have hx8 : Ext [] PS (PS7 ++ [Piece.arr 0 5 [nodL u8 Ha.leaf0] false]) := hx7.1.trans (Ext.app _ _)
 have hn8 := getP_last PS7 (.arr 0 5 [nodL u8 Ha.leaf0] false)
 have hlp : ∀ t : Fl, nodL t Ha.leaf0 = [.bool true, .imm t.a [], .imm t.b [], .imm t.c [], .imm t.d []] := fun _ => rfl
 have hln8 : (PS7 ++ [Piece.arr 0 5 [nodL u8 Ha.leaf0] false]).length = PS7.length + 1 := by simp
 have hst8 := hX8.st
 have hu8 := P_Used hst8
 have hl8 := P_Left hst8
 rw [k_used] at hu8
 rw [k_left] at hl8
 simp only [go_sem, seval, kidL, ones_nod, nodL_len]
 intro _
 generalize PS7 ++ [.arr 0 5 [nodL u8 Ha.leaf0] false] = PS8 at hX8 hx8 hn8 hu8 hl8 ⊢
 refine pend_intro ((ha_may hX8 ok5 1).mono ?_)
 rintro _ PS8 ⟨rfl, rfl⟩
 rw [k_may1]
 simp only [go_sem, seval, hn8, hlp, hX8.hn]
 refine pend_intro (hu8.mono ?_)
 rintro _ PS8 ⟨rfl, rfl⟩
 simp only [go_sem, seval, hX8.hn, ints, List.map_cons, List.map_nil]
 intro _
 refine pend_intro (hl8.mono ?_)
 rintro _ PS9 ⟨rfl, rfl⟩
 simp only [go_sem, seval]
 refine pend_intro ((ha_idle hX8 ok5).mono ?_)
 rintro _ PS9 ⟨rfl, rfl⟩
 rw [k_idle]
 simp only [go_sem, seval]
 refine pend_intro ((ha_pin ⟨X7, hX8⟩ ok5 (by omega) 0 1).mono ?_)
 rintro _ PS9 ⟨rfl, own9, hp9, hu9⟩
 rw [k_pin1]
 simp only [go_sem, seval]
 exact (up_ext ⟨hx8, hx7.2⟩ hu9).1
theorem sets_ (n : Int) (W F E : Bool) : HCall Tryz.prog 3 [.int .i64 n, .bool W, .bool F, .bool E] [] fun r _ => r = .bool true := (hall_sets awake17 n W F E []).mono fun _ _ h => h.1
end Go.Proofs.YtdjfdlpfchokcaaGreat
