/-
The hall.
No conditions.
-/
import Derived.Test.YtdjfdlpfchokcaaGreatQHm9
import Derived.Test.YtdjfdlpfchokcaaGreatQHmA
import Derived.Test.YtdjfdlpfchokcaaGreatQHm7
set_option linter.unusedSectionVars false
set_option linter.unusedSimpArgs false
set_option linter.unusedVariables false
namespace Go.Proofs.YtdjfdlpfchokcaaGreat
open Go Go.Eng Go.Ow
open Go.Mo hiding SlO SlR Sees Upd isT
variable [Toks]
structure Ha where
 ca : Ca
 bs : List (Option Nd)
 lt : List Lt
namespace Ha
def shelf (h : Ha) : Shelf := h.bs.map fun o => o.map encB
abbrev reads (h : Ha) : Int → Option Int := h.ca.rds
def block (h : Ha) (b : Int) : Option Nd := if 0 ≤ b then h.bs.getD b.toNat none else none
def is (h : Ha) (b : Int) : Bool := (h.block b).isSome
def setB (h : Ha) (b : Int) (d : Nd) : Ha := if (h.is b) = true then { h with bs := h.bs.set b.toNat (some d) } else h
def ready (h : Ha) (t b : Int) : Option Nat := if isT t then h.ca.ready b else none
def lat (h : Ha) (i : Nat) : Lt := h.lt.getD i Lt.none
def pin (h : Ha) (t b : Int) : Ha × Int := if h.is b then ({ h with ca := (h.ca.pin t b).1 }, (h.ca.pin t b).2) else (h, 0)
def load (h : Ha) (t b : Int) : Ha × List Int × Bool :=
 if h.reads b = some t then (let r := h.ca.fill b ((h.block b).getD Nd.none); ({ h with ca := r.1 }, r.2.1, r.2.2)) else (h, [], false)
def take (h : Ha) (t b : Int) (w : Bool) : Ha × Bool :=
 match h.ready t b with
 | some i => ({ h with lt := h.lt.set i ((h.lat i).take t w).1 }, ((h.lat i).take t w).2)
 | none => (h, false)
def leave (h : Ha) (t b : Int) : Ha × List Int :=
 match h.ready t b with
 | some i => if (h.lat i).has t then ({ h with lt := h.lt.set i ((h.lat i).drop t).1, ca := (h.ca.unpin b).1 }, ((h.lat i).drop t).2) else (h, [])
 | none => (h, [])
noncomputable def set_ (h : Ha) (t b : Int) (d : Nd) : Ha × Bool :=
 match h.ready t b with
 | some i => if decide ((h.lat i).wr = t) && tt (nodFits d) then ({ h with ca := (h.ca.set_ b d).1 }, (h.ca.set_ b d).2) else (h, false)
 | none => (h, false)
def look (h : Ha) (b : Int) : Nd × Bool :=
 match h.ca.node b with
 | some d => (d, true)
 | none => match h.block b with
  | some d => (d, true)
  | none => (Nd.none, false)
noncomputable def born (h : Ha) (t b : Int) (d : Nd) : Ha × Bool := if h.is b && tt (nodFits d) then ({ h with ca := (h.ca.name t b d).1 }, (h.ca.name t b d).2) else (h, false)
def left (h : Ha) : Nat := h.bs.countP Option.isNone
def evict (h : Ha) : Ha × Option Int :=
 match h.ca.evict with
 | (c, some f) => ((if f.dy then { h with ca := c }.setB f.blk f.nd else { h with ca := c }), some f.blk)
 | (c, none) => ({ h with ca := c }, none)
def may (h : Ha) (t : Int) : Bool := (h.lt.all fun l => !l.waits t) && h.ca.may t
def rest (f : Fm) (l : Lt) : Bool := (decide (f.st = 0) || decide (f.st = 2)) && decide (f.pins ≤ 0) && l.opn true && l.q.isEmpty
def idle (h : Ha) : Bool := ((h.ca.fs.zip h.lt).all fun p => rest p.1 p.2) && h.ca.line.isEmpty
def leaf0 : Nd := ⟨true, [], [], [], []⟩
def more (h : Ha) : Ha × Int :=
 match h.bs.findIdx? Option.isNone with
 | some k => ({ h with bs := h.bs.set k (some leaf0) }, k)
 | none => (h, 0)
def alloc (h : Ha) (t n : Int) : Ha × List Int × Bool :=
 if isT t then
  if n < 1 ∨ 2 < n ∨ (h.ca.claims t : Int) < n ∨ (h.left : Int) < n then ({ h with ca := h.ca.give t }, [], false)
  else if n = 1 then (h.more.1, [h.more.2], true)
  else (h.more.1.more.1, [h.more.2, h.more.1.more.2], true)
 else (h, [], false)
end Ha
structure HaX where
 col : Nat → Nat
 pc : Nat
 oc : List Nat
 xs : HV
 os : List Nat
 pl : Nat
 vl : Nat
 lp : List Nat
 lo : Nat → List Nat
 pr : Nat
 kr : Nat
 er : Ents
structure HaAt (PS : PL) (n : Nat) (own : List Nat) (h : Ha) (rd : Int → Option Int) (X : HaX) : Prop where
 hn : getP PS n = .arr 0 4 [[.ptr X.pc 0 0 0, X.xs, .sl X.pl X.vl 0 h.lt.length none, .ref X.pr 0]] false
 ca : CaP PS X.pc X.oc h.ca
 st : StoreP PS X.xs X.os h.shelf
 hl : getP PS X.pl = .arr X.vl 1 (X.lp.map fun p => [.ptr p 0 0 0]) true
 lpl : X.lp.length = h.lt.length
 ne : X.lp ≠ []
 lat : ∀ (i : Nat) (p : Nat) (l : Lt), X.lp[i]? = some p → h.lt[i]? = some l → LaP PS p (X.lo i) l
 hr : getP PS X.pr = .map 0 X.kr .i64 X.er
 okr : MapOk X.kr X.er
 mr : ∀ b, mget b X.er = (rd b).map fun t => .int .i64 t
 cn : X.col n = 0
 cc : ∀ q ∈ X.oc, X.col q = 1
 cs : ∀ q ∈ X.os, X.col q = 2
 cl : X.col X.pl = 3
 cr : X.col X.pr = 4
 co : ∀ i, ∀ q ∈ X.lo i, X.col q = 5 + i
 mn : n ∈ own
 mc : ∀ q ∈ X.oc, q ∈ own
 ms : ∀ q ∈ X.os, q ∈ own
 ml : X.pl ∈ own
 mr' : X.pr ∈ own
 mo : ∀ i, ∀ q ∈ X.lo i, q ∈ own
 out : ∀ i, X.lp.length ≤ i → X.lo i = []
 lt : ∀ q ∈ own, q < PS.length
def HaP (PS : PL) (n : Nat) (own : List Nat) (h : Ha) : Prop := ∃ X, HaAt PS n own h h.reads X
structure okH (B : Int) (h : Ha) : Prop where
 ca : okC B h.ca
 lts : h.lt.length = h.ca.fs.length
 lat : ∀ l ∈ h.lt, okL l
 few : h.bs.length ≤ 256
 one : 1 ≤ h.bs.length
 nd : ∀ d, some d ∈ h.bs → okN d ∧ nodFits d
section
variable {PS PS' : PL} {n : Nat} {own : List Nat} {h : Ha} {rd : Int → Option Int} {X : HaX}
theorem CaP.keep {c : Ca} {p : Nat} {o : List Nat} (h : CaP PS p o c) (hk : ∀ q ∈ o, getP PS' q = getP PS q) (hl : PS.length ≤ PS'.length) : CaP PS' p o c := by
 obtain ⟨X, h⟩ := h
 exact ⟨X, h.keep hk hl⟩
theorem CaP.lt {c : Ca} {p : Nat} {o : List Nat} (h : CaP PS p o c) : ∀ q ∈ o, q < PS.length := by
 obtain ⟨X, h⟩ := h
 exact h.lt
theorem HaAt.keep (h1 : HaAt PS n own h rd X) (hk : ∀ q ∈ own, getP PS' q = getP PS q) (hl : PS.length ≤ PS'.length) : HaAt PS' n own h rd X :=
 { h1 with
  hn := (hk _ h1.mn).trans h1.hn
  ca := CaP.keep h1.ca (fun q hq => hk q (h1.mc q hq)) hl
  st := h1.st.frame fun q hq => hk q (h1.ms q hq)
  hl := (hk _ h1.ml).trans h1.hl
  lat := fun i p l a b => (h1.lat i p l a b).keep fun q hq => hk q (h1.mo i q hq)
  hr := (hk _ h1.mr').trans h1.hr
  lt := fun q hq => Nat.lt_of_lt_of_le (h1.lt q hq) hl }
theorem HaAt.ext (h1 : HaAt PS n own h rd X) (he : Ext [] PS PS') : HaAt PS' n own h rd X := h1.keep (fun q hq => he.2 q (h1.lt q hq) (by simp)) he.1
theorem HaAt.app (h1 : HaAt PS n own h rd X) (l : PL) : HaAt (PS ++ l) n own h rd X := h1.ext (Ext.app _ _)
theorem HaAt.setC (h1 : HaAt PS n own h rd X) {oc : List Nat} {c : Ca} (hc : CaP PS' X.pc oc c) (hu : Ow.Upd X.oc PS PS' oc) :
  ∃ own' X', HaAt PS' n own' { h with ca := c } rd X' ∧ Ow.Upd own PS PS' own' ∧ X'.pr = X.pr := by
 have hk : ∀ q, q < PS.length → X.col q ≠ 1 → getP PS' q = getP PS q := fun q hq hne => hu.1.2 q hq fun hm => hne (h1.cc q hm)
 refine ⟨own ++ oc, { X with oc := oc, col := recol X.col PS.length 1 }, { h1 with
  hn := (hk n (h1.lt n h1.mn) (by rw [h1.cn]; omega)).trans h1.hn
  ca := hc
  st := h1.st.frame fun q hq => hk q (h1.lt q (h1.ms q hq)) (by rw [h1.cs q hq]; omega)
  hl := (hk _ (h1.lt _ h1.ml) (by rw [h1.cl]; omega)).trans h1.hl
  lat := fun i p l a b => (h1.lat i p l a b).keep fun q hq => hk q (h1.lt q (h1.mo i q hq)) (by rw [h1.co i q hq]; omega)
  hr := (hk _ (h1.lt _ h1.mr') (by rw [h1.cr]; omega)).trans h1.hr
  cn := (recol_old (h1.lt _ h1.mn)).trans h1.cn
  cc := Ow.Upd.col hu (fun q hq => h1.lt q (h1.mc q hq)) h1.cc
  cs := fun q hq => (recol_old (h1.lt q (h1.ms q hq))).trans (h1.cs q hq)
  cl := (recol_old (h1.lt _ h1.ml)).trans h1.cl
  cr := (recol_old (h1.lt _ h1.mr')).trans h1.cr
  co := fun i q hq => (recol_old (h1.lt q (h1.mo i q hq))).trans (h1.co i q hq)
  mn := List.mem_append_left _ h1.mn
  mc := fun q hq => List.mem_append_right _ hq
  ms := fun q hq => List.mem_append_left _ (h1.ms q hq)
  ml := List.mem_append_left _ h1.ml
  mr' := List.mem_append_left _ h1.mr'
  mo := fun i q hq => List.mem_append_left _ (h1.mo i q hq)
  lt := fun q hq => by
   rcases List.mem_append.1 hq with hq | hq
   ·exact Nat.lt_of_lt_of_le (h1.lt q hq) hu.1.1
   ·exact CaP.lt hc q hq }, ⟨hu.1.mono fun q hq => h1.mc q hq, fun q hq => ?_⟩, rfl⟩
 rcases List.mem_append.1 hq with hq | hq
 ·exact .inl hq
 ·rcases hu.2 q hq with h2 | h2
  ·exact .inl (h1.mc q h2)
  ·exact .inr h2
theorem HaAt.setS (h1 : HaAt PS n own h rd X) {bs : List (Option Nd)} (hs : StoreP PS' X.xs X.os (bs.map fun o => o.map encB)) (he : Ext X.os PS PS') :
  HaAt PS' n own { h with bs := bs } rd X ∧ Ow.Upd own PS PS' own := by
 have hk : ∀ q, q < PS.length → X.col q ≠ 2 → getP PS' q = getP PS q := fun q hq hne => he.2 q hq fun hm => hne (h1.cs q hm)
 refine ⟨{ h1 with
  hn := (hk n (h1.lt n h1.mn) (by rw [h1.cn]; omega)).trans h1.hn
  ca := CaP.keep h1.ca (fun q hq => hk q (h1.lt q (h1.mc q hq)) (by rw [h1.cc q hq]; omega)) he.1
  st := hs
  hl := (hk _ (h1.lt _ h1.ml) (by rw [h1.cl]; omega)).trans h1.hl
  lat := fun i p l a b => (h1.lat i p l a b).keep fun q hq => hk q (h1.lt q (h1.mo i q hq)) (by rw [h1.co i q hq]; omega)
  hr := (hk _ (h1.lt _ h1.mr') (by rw [h1.cr]; omega)).trans h1.hr
  lt := fun q hq => Nat.lt_of_lt_of_le (h1.lt q hq) he.1 }, he.mono fun q hq => h1.ms q hq, fun q hq => .inl hq⟩
theorem HaAt.setL (h1 : HaAt PS n own h rd X) {i p : Nat} {l : Lt} {o : List Nat} (hp : X.lp[i]? = some p) (hl : LaP PS' p o l) (hu : Go.Mo.Upd (X.lo i) PS PS' o) :
  ∃ own' X', HaAt PS' n own' { h with lt := h.lt.set i l } rd X' ∧ Ow.Upd own PS PS' own' := by
 have hk : ∀ q, q < PS.length → X.col q ≠ 5 + i → getP PS' q = getP PS q := fun q hq hne => hu.1.2 q hq fun hm => hne (h1.co i q hm)
 have hii : i < h.lt.length := by rw [← h1.lpl]; exact (List.getElem?_eq_some_iff.1 hp).1
 refine ⟨own ++ o, { X with lo := fun j => if j = i then o else X.lo j, col := recol X.col PS.length (5 + i) }, { h1 with
  hn := by rw [List.length_set]; exact (hk n (h1.lt n h1.mn) (by rw [h1.cn]; omega)).trans h1.hn
  ca := CaP.keep h1.ca (fun q hq => hk q (h1.lt q (h1.mc q hq)) (by rw [h1.cc q hq]; omega)) hu.1.1
  st := h1.st.frame fun q hq => hk q (h1.lt q (h1.ms q hq)) (by rw [h1.cs q hq]; omega)
  hl := (hk _ (h1.lt _ h1.ml) (by rw [h1.cl]; omega)).trans h1.hl
  lpl := by rw [List.length_set]; exact h1.lpl
  lat := fun j p' l' a b => by
   by_cases hj : j = i
   ·subst hj
    simp only [if_pos]
    rw [List.getElem?_set_self hii] at b
    cases b
    rw [hp] at a; cases a
    exact hl
   ·simp only [if_neg hj]
    rw [List.getElem?_set_ne (Ne.symm hj)] at b
    exact (h1.lat j p' l' a b).keep fun q hq => hk q (h1.lt q (h1.mo j q hq)) (by rw [h1.co j q hq]; omega)
  hr := (hk _ (h1.lt _ h1.mr') (by rw [h1.cr]; omega)).trans h1.hr
  cn := (recol_old (h1.lt _ h1.mn)).trans h1.cn
  cc := fun q hq => (recol_old (h1.lt q (h1.mc q hq))).trans (h1.cc q hq)
  cs := fun q hq => (recol_old (h1.lt q (h1.ms q hq))).trans (h1.cs q hq)
  cl := (recol_old (h1.lt _ h1.ml)).trans h1.cl
  cr := (recol_old (h1.lt _ h1.mr')).trans h1.cr
  co := fun j q hq => by
   simp only at hq
   by_cases hj : j = i
   ·subst hj
    rw [if_pos rfl] at hq
    exact Ow.Upd.col (own := X.lo j) (own' := o) ⟨hu.1, hu.2⟩ (fun q hq => h1.lt q (h1.mo j q hq)) (h1.co j) q hq
   ·rw [if_neg hj] at hq
    exact (recol_old (h1.lt q (h1.mo j q hq))).trans (h1.co j q hq)
  mn := List.mem_append_left _ h1.mn
  mc := fun q hq => List.mem_append_left _ (h1.mc q hq)
  ms := fun q hq => List.mem_append_left _ (h1.ms q hq)
  ml := List.mem_append_left _ h1.ml
  mr' := List.mem_append_left _ h1.mr'
  mo := fun j q hq => by
   simp only at hq
   by_cases hj : j = i
   ·rw [if_pos hj] at hq; exact List.mem_append_right _ hq
   ·rw [if_neg hj] at hq; exact List.mem_append_left _ (h1.mo j q hq)
  out := fun j hj => by
   have hij : ¬ j = i := by
    have : i < X.lp.length := by rw [h1.lpl]; exact hii
    simp only at hj; omega
   simp only [if_neg hij]; exact h1.out j hj
  lt := fun q hq => by
   rcases List.mem_append.1 hq with hq | hq
   ·exact Nat.lt_of_lt_of_le (h1.lt q hq) hu.1.1
   ·exact hl.lt q hq }, hu.1.mono fun q hq => h1.mo i q hq, fun q hq => ?_⟩
 rcases List.mem_append.1 hq with hq | hq
 ·exact .inl hq
 ·rcases hu.2 q hq with h2 | h2
  ·exact .inl (h1.mo i q h2)
  ·exact .inr h2
theorem HaAt.setR (h1 : HaAt PS n own h rd X) (b t : Int) : ∃ X', HaAt (PS.set X.pr (.map 0 (if (mget b X.er).isSome then X.kr else X.kr + 1) .i64 (mput b (.int .i64 t) X.kr X.er))) n own h (fun b' => if b' = b then some t else rd b') X' :=
 have hne : ∀ q Q, X.col q ≠ 4 → getP (PS.set X.pr Q) q = getP PS q := fun q Q hq => getP_set_ne _ (fun e => hq (by rw [← e, h1.cr]))
 ⟨{ X with kr := if (mget b X.er).isSome then X.kr else X.kr + 1, er := mput b (.int .i64 t) X.kr X.er }, { h1 with
  hn := (hne _ _ (by rw [h1.cn]; omega)).trans h1.hn
  ca := CaP.keep h1.ca (fun q hq => hne q _ (by rw [h1.cc q hq]; omega)) (by simp)
  st := h1.st.frame fun q hq => hne q _ (by rw [h1.cs q hq]; omega)
  hl := (hne _ _ (by rw [h1.cl]; omega)).trans h1.hl
  lat := fun i p l a c => (h1.lat i p l a c).keep fun q hq => hne q _ (by rw [h1.co i q hq]; omega)
  hr := getP_map_set _ h1.hr
  okr := h1.okr.put b _
  mr := fun b' => by
   rw [mget_put]
   split
   ·rfl
   ·exact h1.mr b'
  lt := fun q hq => by simpa using h1.lt q hq }⟩
theorem HaAt.delR (h1 : HaAt PS n own h rd X) (b : Int) : ∃ X', HaAt (PS.set X.pr (.map 0 X.kr .i64 (mdel b X.er))) n own h (fun b' => if b' = b then none else rd b') X' :=
 have hne : ∀ q Q, X.col q ≠ 4 → getP (PS.set X.pr Q) q = getP PS q := fun q Q hq => getP_set_ne _ (fun e => hq (by rw [← e, h1.cr]))
 ⟨{ X with er := mdel b X.er }, { h1 with
  hn := (hne _ _ (by rw [h1.cn]; omega)).trans h1.hn
  ca := CaP.keep h1.ca (fun q hq => hne q _ (by rw [h1.cc q hq]; omega)) (by simp)
  st := h1.st.frame fun q hq => hne q _ (by rw [h1.cs q hq]; omega)
  hl := (hne _ _ (by rw [h1.cl]; omega)).trans h1.hl
  lat := fun i p l a c => (h1.lat i p l a c).keep fun q hq => hne q _ (by rw [h1.co i q hq]; omega)
  hr := getP_map_set _ h1.hr
  okr := h1.okr.del b
  mr := fun b' => by
   rw [mget_del _ _ h1.okr.keys]
   split
   ·rfl
   ·exact h1.mr b'
  lt := fun q hq => by simpa using h1.lt q hq }⟩
theorem LaP.pre {p : Nat} {o : List Nat} {l : Lt} (h : LaP PS p o l) (hp : Pre PS PS') : LaP PS' p o l := by
 refine h.keep ?_
 obtain ⟨xr, xq, o1, o2, h1, h2, h3, rfl, _⟩ := h
 intro m hm
 simp only [List.mem_cons, List.mem_append] at hm
 rcases hm with rfl | hm | hm
 ·rw [h1]; exact hp.arr h1
 ·rcases h2 with ⟨_, _, rfl⟩ | ⟨q, ver, sp, _, hg, _, rfl⟩
  ·cases hm
  ·simp at hm; subst hm; rw [hg]; exact hp.arr hg
 ·rcases h3 with ⟨_, _, rfl⟩ | ⟨q, ver, pre, sp, _, hg, rfl⟩
  ·cases hm
  ·simp at hm; subst hm; rw [hg]; exact hp.arr hg
end
end Go.Proofs.YtdjfdlpfchokcaaGreat
namespace Go.Proofs.YtdjfdlpfchokcaaGreat
open Go Go.Eng Go.Ow
open Go.Mo hiding SlO SlR Sees Upd isT
variable [Toks]
set_option maxRecDepth 20000
attribute [local irreducible] hvc hops hop hplan hdrawP hval1 hopD HLoop
theorem shelf_get (h : Ha) (b : Int) : h.shelf.get b = (h.block b).map encB := by
 unfold Shelf.get Ha.shelf Ha.block
 split
 ·simp only [List.getD, List.getElem?_map]
  cases h.bs[b.toNat]? with
  | none => rfl
  | some o => cases o <;> rfl
 ·rfl
theorem HCall.dataQ {P : Program} {f : FuncId} {args : List HV} {PS : PL} {Q : HV → Prop} (h : HCall P f args PS fun r PS' => Q r ∧ Scoped PS.length r ∧ Ext [] PS PS') : HCall P f args PS fun r PS' => Q r ∧ PS' = PS := by
 refine HCall.take (h.mono ?_)
 rintro r PS' ⟨h1, h2, h3⟩
 exact ⟨h3.1, h2, fun n hn => .inl (h3.2 n hn (by simp)), h1, take_of_ext h3⟩
section
variable {PS PS' : PL} {n : Nat} {own : List Nat} {h : Ha} {rd : Int → Option Int} {X : HaX} {B : Int}
theorem ha_task (t : Int) : Pure Tryz.prog 62 [.int .i64 t] (.bool (isT t)) := by
 intro PS
 refine enter_62 (by unfold Tryz.f62; exact rfl) ?_
 unfold isT
 by_cases h : 0 ≤ t
 ·simp only [go_sem, seval, h, Bool.true_and]
 ·simp only [go_sem, seval, h, Bool.false_and]
theorem ha_is (h1 : HaAt PS n own h rd X) (b : Int) : HCall Tryz.prog 22 [.ptr n 0 0 0, .int .i64 b] PS fun r PS' => r = .bool (h.is b) ∧ PS' = PS := by
 refine enter_22 (by unfold Tryz.f22; exact rfl) ?_
 simp only [go_sem, seval, h1.hn]
 refine pend_intro ((P_Read h1.st b).mono ?_)
 rintro _ _ ⟨⟨t, rfl⟩, rfl⟩
 unfold Ha.is Shelf.read
 rw [shelf_get]
 cases h.block b <;> simp only [go_sem, seval, Option.map_some, Option.map_none, Option.isSome_some, Option.isSome_none]
theorem okN_none : okN Nd.none := ⟨by simp [Nd.none], by simp [Nd.none], by simp [Nd.none], by simp [Nd.none]⟩
theorem block_nd (ok : okH B h) {b : Int} {d : Nd} (hb : h.block b = some d) : okN d ∧ nodFits d := by
 refine ok.nd d ?_
 unfold Ha.block at hb
 split at hb
 ·simp only [List.getD] at hb
  cases hg : h.bs[b.toNat]? with
  | none => rw [hg] at hb; cases hb
  | some o => rw [hg] at hb; cases hb; exact List.mem_of_getElem? hg
 ·cases hb
theorem ha_read (h1 : HaAt PS n own h rd X) (b : Int) (ok : okH B h) : HCall Tryz.prog 24 [.ptr n 0 0 0, .int .i64 b] PS fun r PS' => (∃ u, r = .tup [.agg (nodL u ((h.block b).getD Nd.none)), .bool (h.block b).isSome]) ∧ PS' = PS := by
 cases hb : h.block b with
 | none =>
  refine (HCall.data (res := .tup [.agg (nodL ⟨true, true, true, true⟩ Nd.none), .bool false]) (scoped_tup.2 (by simp; exact ⟨sc_nod _ _, .bool _⟩)) ?_).mono fun r PS' h => ⟨⟨_, h.1⟩, h.2⟩
  refine enter_24 (by unfold Tryz.f24; exact rfl) ?_
  have h2 := fun l => h1.app l
  simp only [go_sem, seval, (h2 _).hn]
  refine pend_intro ((P_Read (h2 _).st b).mono ?_)
  rintro _ _ ⟨⟨t, rfl⟩, rfl⟩
  have e : h.shelf.read b = ([], 6) := by unfold Shelf.read; rw [shelf_get, hb]; rfl
  rw [e]
  simp only [go_sem, seval]
  exact ⟨rfl, Ext.app _ _⟩
 | some d =>
  obtain ⟨okd, fit⟩ := block_nd ok hb
  have hl := getP_last PS (.arr 0 5 [[.bool false, .imm true [], .imm true [], .imm true [], .imm true []]] false)
  refine HCall.dataQ ?_
  refine enter_24 (by unfold Tryz.f24; exact rfl) ?_
  have h2 := fun l => h1.app l
  simp only [go_sem, seval, (h2 _).hn]
  refine pend_intro ((P_Read (h2 _).st b).mono ?_)
  rintro _ _ ⟨⟨t, rfl⟩, rfl⟩
  have e : h.shelf.read b = (encB d, 0) := by unfold Shelf.read; rw [shelf_get, hb]; rfl
  obtain ⟨u, hu⟩ := codec_decode t d okd fit
  rw [e]
  simp only [go_sem, seval]
  refine pend_intro (hu.call ?_)
  simp only [go_sem, seval, nodL, hl, set_last]
  exact ⟨⟨u, rfl⟩, scoped_tup.2 (by simp; exact ⟨sc_nod u d, .bool _⟩), Ext.app _ _⟩
theorem ha_write (h1 : HaAt PS n own h rd X) (b : Int) (t : Fl) (d : Nd) (okd : okN d) (fit : nodFits d) : HCall Tryz.prog 21 [.ptr n 0 0 0, .int .i64 b, .agg (nodL t d)] PS fun _ PS' => HaAt PS' n own (h.setB b d) rd X ∧ Ow.Upd own PS PS' own := by
 have hu0 : Ow.Upd own PS (PS ++ [.arr 0 5 [nodL t d] false]) own := ⟨(Ext.app _ _).mono (by simp), fun m hm => .inl hm⟩
 have hw0 := getP_last PS (.arr 0 5 [nodL t d] false)
 have h2 := h1.app [.arr 0 5 [nodL t d] false]
 refine enter_21 (by unfold Tryz.f21; exact rfl) ?_
 simp only [go_sem, seval, ones_nod, nodL_len]
 generalize PS ++ [.arr 0 5 [nodL t d] false] = PS1 at hu0 hw0 h2 ⊢
 refine pend_intro ((codec_encode t d okd fit).call ?_)
 simp only [go_sem, seval, h2.hn]
 refine pend_intro ((P_Write h2.st b false (encB d)).mono ?_)
 rintro r PS2 ⟨rfl, he, hs⟩
 simp only [go_sem, seval]
 have e : (h.shelf.write b (encB d)).2 = (h.setB b d).bs.map fun o => o.map encB := by
  unfold Shelf.write Ha.setB Ha.is
  rw [shelf_get]
  cases hb : h.block b with
  | none => rfl
  | some d' =>
   have hl : (encB d).length = 256 := encB_len okd fit
   simp only [Option.map_some, Option.isSome_some, if_true, hl]
   unfold Ha.shelf
   rw [List.map_set]; rfl
 rw [e] at hs
 obtain ⟨h3, hu⟩ := h2.setS hs he
 have e2 : ({ h with bs := (h.setB b d).bs } : Ha) = h.setB b d := by unfold Ha.setB; split <;> rfl
 rw [e2] at h3
 exact ⟨h3, hu0.trans hu⟩
theorem ha_latch (h1 : HaAt PS n own h rd X) (ok : okH B h) (t b : Int) : HCall Tryz.prog 26 [.ptr n 0 0 0, .int .i64 t, .int .i64 b] PS fun r PS' => r = (match h.ready t b with | some i => .ptr (X.lp.getD i 0) 0 0 0 | none => .cst (.pointer none)) ∧ PS' = PS := by
 refine enter_26 (by unfold Tryz.f26; exact rfl) ?_
 simp only [go_sem, seval]
 refine pend_intro ((ha_task t).call ?_)
 cases ht : isT t with
 | false =>
  have e : h.ready t b = none := by unfold Ha.ready; rw [ht]; rfl
  rw [e]
  simp only [go_sem, seval]
 | true =>
  obtain ⟨Y, hY⟩ := h1.ca
  simp only [go_sem, seval, h1.hn]
  refine pend_intro ((ca_ready hY b fun i hi => find_lt hi).mono ?_)
  rintro _ PS ⟨rfl, rfl⟩
  have er : (h.ca.raw.at_ b).filter (fun i => decide ((h.ca.raw.fs.getD i Fm.free).st = 2)) = h.ca.ready b := rfl
  have e : h.ready t b = h.ca.ready b := by unfold Ha.ready; rw [ht]; rfl
  rw [er, e]
  cases hr : h.ca.ready b with
  | none => simp only [go_sem, seval, Option.isSome_none]
  | some i =>
   obtain ⟨hf, h0⟩ := Option.filter_eq_some_iff.1 hr
   obtain ⟨hi, hib⟩ := Ow.find_some hf
   have hil : i < X.lp.length := by rw [h1.lpl, ok.lts]; exact hi
   have hil2 : i < h.lt.length := by rw [ok.lts]; exact hi
   have hg : (X.lp.map fun p => [HV.ptr p 0 0 0])[i]? = some [.ptr (X.lp.getD i 0) 0 0 0] := by simp [List.getD, hil]
   simp only [go_sem, seval, Option.isSome_some, h1.hn]
   refine pend_intro (Reads.to (fun PS2 hp => ca_place (hY.pre hp) b) ?_)
   have hf' : h.ca.raw.at_ b = some i := hf
   rw [hf']
   simp only [go_sem, seval, ixI, h1.hn, h1.hl, hg, hil2]
theorem latch_at (h1 : HaAt PS n own h rd X) (ok : okH B h) {t b : Int} {i : Nat} (hr : h.ready t b = some i) : ∃ p l, X.lp[i]? = some p ∧ h.lt[i]? = some l ∧ X.lp.getD i 0 = p := by
 have hr' : h.ca.ready b = some i := by unfold Ha.ready at hr; split at hr <;> first | exact hr | cases hr
 obtain ⟨hi, _⟩ := Ow.find_some (Option.filter_eq_some_iff.1 hr').1
 have hil : i < X.lp.length := by rw [h1.lpl, ok.lts]; exact hi
 have hil2 : i < h.lt.length := by rw [ok.lts]; exact hi
 exact ⟨X.lp[i], h.lt[i], by simp [hil], by simp [hil2], by simp [List.getD, hil]⟩
theorem LaP.live {p : Nat} {o : List Nat} {l : Lt} (h : LaP PS p o l) : hlive (getP PS p) 0 := by
 obtain ⟨xr, xq, o1, o2, h1, _⟩ := h
 rw [h1]; exact ⟨rfl, .inl rfl⟩
theorem ha_pin (h1 : HaP PS n own h) (ok : okH B h) (hB : B ≤ 1000000000) (t b : Int) : HCall Tryz.prog 5 [.ptr n 0 0 0, .int .i64 t, .int .i64 b] PS fun r PS' => r = .int .i64 (h.pin t b).2 ∧ ∃ own', HaP PS' n own' (h.pin t b).1 ∧ Ow.Upd own PS PS' own' := by
 obtain ⟨X, h1⟩ := h1
 refine enter_5 (by unfold Tryz.f5; exact rfl) ?_
 simp only [go_sem, seval]
 refine pend_intro ((ha_is h1 b).mono ?_)
 rintro _ PS ⟨rfl, rfl⟩
 cases hb : h.is b with
 | false =>
  have e : h.pin t b = (h, 0) := by unfold Ha.pin; rw [hb]; rfl
  rw [e]
  simp only [go_sem, seval]
  exact ⟨own, ⟨X, h1⟩, .refl _ _⟩
 | true =>
  have e : h.pin t b = ({ h with ca := (h.ca.pin t b).1 }, (h.ca.pin t b).2) := by unfold Ha.pin; rw [hb]; rfl
  rw [e]
  simp only [go_sem, seval, h1.hn]
  refine pend_intro ((cap_pin h1.ca ok.ca hB t b).mono ?_)
  rintro r PS1 ⟨rfl, oc, hc, hu⟩
  obtain ⟨own1, X1, h2, hu2, e3⟩ := h1.setC hc hu
  by_cases h3 : (h.ca.pin t b).2 = 3
  ·simp only [go_sem, seval, h3, h2.hn, h2.hr]
   obtain ⟨X2, h4⟩ := h2.setR b t
   refine ⟨own1, ⟨X2, ?_⟩, (hu2.set _ (.inl (by rw [e3]; exact h1.mr')))⟩
   have := rds_pin h.ca t b
   rw [if_pos h3] at this
   show HaAt _ n own1 { h with ca := (h.ca.pin t b).1 } (h.ca.pin t b).1.rds X2
   rw [this]; exact h4
  ·simp only [go_sem, seval, h3]
   refine ⟨own1, ⟨X1, ?_⟩, hu2⟩
   have := rds_pin h.ca t b
   rw [if_neg h3] at this
   show HaAt _ n own1 { h with ca := (h.ca.pin t b).1 } (h.ca.pin t b).1.rds X1
   rw [this]; exact h2
theorem ha_take (h1 : HaP PS n own h) (ok : okH B h) (t b : Int) (w : Bool) : HCall Tryz.prog 7 [.ptr n 0 0 0, .int .i64 t, .int .i64 b, .bool w] PS fun r PS' => r = .bool (h.take t b w).2 ∧ ∃ own', HaP PS' n own' (h.take t b w).1 ∧ Ow.Upd own PS PS' own' := by
 obtain ⟨X, h1⟩ := h1
 refine enter_7 (by unfold Tryz.f7; exact rfl) ?_
 simp only [go_sem, seval]
 refine pend_intro ((ha_latch h1 ok t b).mono ?_)
 rintro _ PS ⟨rfl, rfl⟩
 cases hr : h.ready t b with
 | none =>
  have e : h.take t b w = (h, false) := by unfold Ha.take; rw [hr]
  rw [e]
  simp only [go_sem, seval]
  exact ⟨own, ⟨X, h1⟩, .refl _ _⟩
 | some i =>
  obtain ⟨p, l, hp, hl, hpd⟩ := latch_at h1 ok hr
  have hL := h1.lat i p l hp hl
  have e : h.take t b w = ({ h with lt := h.lt.set i (l.take t w).1 }, (l.take t w).2) := by unfold Ha.take; rw [hr]; simp [Ha.lat, List.getD, hl]
  rw [e]
  have hlv : hlive (getP PS p) 0 := LaP.live hL
  simp only [go_sem, seval, hpd, hlv]
  refine pend_intro ((latch_take PS p (X.lo i) l t w hL (ok.lat l (List.mem_of_getElem? hl))).mono ?_)
  rintro r PS1 ⟨rfl, o, hl2, hu⟩
  simp only [go_sem, seval]
  obtain ⟨own1, X1, h2, hu2⟩ := h1.setL hp hl2 hu
  exact ⟨own1, ⟨X1, h2⟩, hu2⟩
theorem ha_has (p : Nat) (o : List Nat) (l : Lt) (hL : LaP PS p o l) (okl : okL l) (t : Int) : HCall Tryz.prog 33 [.ptr p 0 0 0, .int .i64 t] PS fun r PS' => r = .bool (l.has t) ∧ PS' = PS := by
 refine enter_33 (by unfold Tryz.f33; exact rfl) ?_
 simp only [go_sem, seval]
 refine pend_intro ((latch_writer PS p o l hL).mono ?_)
 rintro _ PS ⟨rfl, rfl⟩
 by_cases hw : l.wr = t
 ·simp only [go_sem, seval, hw]
  simp [Lt.has, hw]
 ·simp only [go_sem, seval, hw]
  refine pend_intro ((latch_readers PS p o l hL okl).mono ?_)
  rintro _ PS ⟨rfl, rfl⟩
  simp only [go_sem, seval]
  refine pend_intro ((contains_se PS l.rd t _ (Sees.imm PS false (rows_kid _))).mono ?_)
  rintro _ PS ⟨rfl, rfl⟩
  simp only [go_sem, seval]
  simp [Lt.has, hw]
theorem ha_leave (h1 : HaP PS n own h) (ok : okH B h) (hB : B ≤ 1000000000) (t b : Int) : HCall Tryz.prog 11 [.ptr n 0 0 0, .int .i64 t, .int .i64 b] PS fun r PS' => (∃ u, r = .imm u ((h.leave t b).2.map kidL)) ∧ ∃ own', HaP PS' n own' (h.leave t b).1 ∧ Ow.Upd own PS PS' own' := by
 obtain ⟨X, h1⟩ := h1
 refine enter_11 (by unfold Tryz.f11; exact rfl) ?_
 simp only [go_sem, seval]
 refine pend_intro ((ha_latch h1 ok t b).mono ?_)
 rintro _ PS ⟨rfl, rfl⟩
 cases hr : h.ready t b with
 | none =>
  have e : h.leave t b = (h, []) := by unfold Ha.leave; rw [hr]
  rw [e]
  simp only [go_sem, seval]
  exact ⟨⟨true, rfl⟩, own, ⟨X, h1⟩, .refl _ _⟩
 | some i =>
  obtain ⟨p, l, hp, hl, hpd⟩ := latch_at h1 ok hr
  have ht : 0 ≤ t := by
   unfold Ha.ready at hr
   split at hr
   ·rename_i h; exact (isT_iff.1 h).1
   ·cases hr
  have hL := h1.lat i p l hp hl
  have okl := ok.lat l (List.mem_of_getElem? hl)
  have hla : h.lat i = l := by simp [Ha.lat, List.getD, hl]
  have hlv : hlive (getP PS p) 0 := LaP.live hL
  simp only [go_sem, seval, hpd, hlv]
  refine pend_intro ((ha_has p _ l hL okl t).mono ?_)
  rintro _ PS ⟨rfl, rfl⟩
  cases hh : l.has t with
  | false =>
   have e : h.leave t b = (h, []) := by unfold Ha.leave; rw [hr]; simp only [hla, hh]; rfl
   rw [e]
   simp only [go_sem, seval]
   exact ⟨⟨true, rfl⟩, own, ⟨X, h1⟩, .refl _ _⟩
  | true =>
   have e : h.leave t b = ({ h with lt := h.lt.set i (l.drop t).1, ca := (h.ca.unpin b).1 }, (l.drop t).2) := by unfold Ha.leave; rw [hr]; simp only [hla, hh, if_true]
   rw [e]
   simp only [go_sem, seval]
   refine pend_intro ((latch_drop PS p (X.lo i) l t ht hL okl).mono ?_)
   rintro r PS1 ⟨rfl, o, hl2, hu⟩
   obtain ⟨own1, X1, h2, hu2⟩ := h1.setL hp hl2 hu
   simp only [go_sem, seval, h2.hn]
   refine pend_intro ((cap_unpin h2.ca ok.ca hB b).mono ?_)
   rintro r PS2 ⟨rfl, hc, hu3⟩
   obtain ⟨own3, X3, h4, hu4, _⟩ := h2.setC hc hu3
   simp only [go_sem, seval]
   refine ⟨⟨_, rfl⟩, own3, ⟨X3, ?_⟩, hu2.trans hu4⟩
   show HaAt PS2 n own3 { h with lt := h.lt.set i (l.drop t).1, ca := (h.ca.unpin b).1 } (h.ca.unpin b).1.rds X3
   rw [rds_unpin]; exact h4
theorem ha_load (h1 : HaP PS n own h) (ok : okH B h) (t b : Int) : HCall Tryz.prog 6 [.ptr n 0 0 0, .int .i64 t, .int .i64 b] PS fun r PS' => (∃ u, r = .tup [.imm u ((h.load t b).2.1.map kidL), .bool (h.load t b).2.2]) ∧ ∃ own', HaP PS' n own' (h.load t b).1 ∧ Ow.Upd own PS PS' own' := by
 obtain ⟨X, h1⟩ := h1
 have hm := h1.mr b
 refine enter_6 (by unfold Tryz.f6; exact rfl) ?_
 cases hrd : h.reads b with
 | none =>
  have e : h.load t b = (h, [], false) := by unfold Ha.load; rw [hrd]; rfl
  have hm' : mget b X.er = none := by rw [hm, hrd]; rfl
  rw [e]
  simp only [go_sem, seval, h1.hn, h1.hr, hm']
  exact ⟨⟨true, rfl⟩, own, ⟨X, h1⟩, .refl _ _⟩
 | some by_ =>
  have hm' : mget b X.er = some (.int .i64 by_) := by rw [hm, hrd]; rfl
  by_cases hbt : by_ = t
  ·subst hbt
   have e : h.load by_ b = ({ h with ca := (h.ca.fill b ((h.block b).getD Nd.none)).1 }, (h.ca.fill b ((h.block b).getD Nd.none)).2.1, (h.ca.fill b ((h.block b).getD Nd.none)).2.2) := by unfold Ha.load; rw [if_pos hrd]
   rw [e]
   obtain ⟨X2, h2⟩ := h1.delR b
   have okd : okN ((h.block b).getD Nd.none) := by
    cases hb : h.block b with
    | none => exact okN_none
    | some d => exact (block_nd ok hb).1
   simp only [go_sem, seval, h1.hn, h1.hr, hm']
   refine pend_intro ((ha_read h2 b ok).mono ?_)
   rintro r PS1 ⟨⟨u, rfl⟩, rfl⟩
   have hw9 := getP_last (PS.set X.pr (.map 0 X.kr .i64 (mdel b X.er))) (.arr 0 5 [nodL u ((h.block b).getD Nd.none)] false)
   have hu9 : Ow.Upd own (PS.set X.pr (.map 0 X.kr .i64 (mdel b X.er))) (PS.set X.pr (.map 0 X.kr .i64 (mdel b X.er)) ++ [.arr 0 5 [nodL u ((h.block b).getD Nd.none)] false]) own := ⟨(Ext.app _ _).mono (by simp), fun m hm => .inl hm⟩
   have h2 := h2.app [.arr 0 5 [nodL u ((h.block b).getD Nd.none)] false]
   simp only [go_sem, seval, h2.hn, ones_nod, nodL_len, hw9]
   refine pend_intro ((cap_fill h2.ca ok.ca b u _ okd).mono ?_)
   rintro r PS2 ⟨v, oc, rfl, hc, hu⟩
   obtain ⟨own3, X3, h4, hu4, _⟩ := h2.setC hc hu
   have hu0 : Ow.Upd own PS (PS.set X.pr (.map 0 X.kr .i64 (mdel b X.er))) own := (Ow.Upd.refl own PS).set _ (.inl h1.mr')
   simp only [go_sem, seval]
   refine ⟨⟨v, rfl⟩, own3, ⟨X3, ?_⟩, (hu0.trans hu9).trans hu4⟩
   show HaAt PS2 n own3 { h with ca := (h.ca.fill b ((h.block b).getD Nd.none)).1 } (h.ca.fill b ((h.block b).getD Nd.none)).1.rds X3
   rw [rds_fill]; exact h4
  ·have e : h.load t b = (h, [], false) := by unfold Ha.load; rw [if_neg (by rw [hrd]; simpa using hbt)]
   rw [e]
   simp only [go_sem, seval, h1.hn, h1.hr, hm', hbt]
   exact ⟨⟨true, rfl⟩, own, ⟨X, h1⟩, .refl _ _⟩
theorem ha_set (h1 : HaP PS n own h) (ok : okH B h) (t b : Int) (tf : Fl) (d : Nd) (okd : okN d) : HCall Tryz.prog 9 [.ptr n 0 0 0, .int .i64 t, .int .i64 b, .agg (nodL tf d)] PS fun r PS' => r = .bool (h.set_ t b d).2 ∧ ∃ own', HaP PS' n own' (h.set_ t b d).1 ∧ Ow.Upd own PS PS' own' := by
 obtain ⟨X, h1⟩ := h1
 have hu0 : Ow.Upd own PS (PS ++ [.arr 0 5 [nodL tf d] false]) own := ⟨(Ext.app _ _).mono (by simp), fun m hm => .inl hm⟩
 have hw0 := getP_last PS (.arr 0 5 [nodL tf d] false)
 have h1 := h1.app [.arr 0 5 [nodL tf d] false]
 refine enter_9 (by unfold Tryz.f9; exact rfl) ?_
 simp only [go_sem, seval, ones_nod, nodL_len]
 generalize PS ++ [.arr 0 5 [nodL tf d] false] = PS1 at hu0 hw0 h1 ⊢
 refine pend_intro ((ha_latch h1 ok t b).mono ?_)
 rintro _ PS1 ⟨rfl, rfl⟩
 cases hr : h.ready t b with
 | none =>
  have e : h.set_ t b d = (h, false) := by unfold Ha.set_; rw [hr]
  rw [e]
  simp only [go_sem, seval]
  exact ⟨own, ⟨X, h1⟩, hu0⟩
 | some i =>
  obtain ⟨p, l, hp, hl, hpd⟩ := latch_at h1 ok hr
  have hL := h1.lat i p l hp hl
  have hla : h.lat i = l := by simp [Ha.lat, List.getD, hl]
  have hlv : hlive (getP PS1 p) 0 := LaP.live hL
  simp only [go_sem, seval, hpd, hlv]
  refine pend_intro (Reads.to (fun PS2 hp => latch_writer PS2 p _ l (LaP.pre hL hp)) ?_)
  by_cases hw : l.wr = t
  ·simp only [go_sem, seval, hw, hw0, nodL_len]
   refine pend_intro ((node_fits tf d okd).to ?_)
   cases hf : tt (nodFits d) with
   | false =>
    have e : h.set_ t b d = (h, false) := by unfold Ha.set_; rw [hr]; simp only [hla, hf, Bool.and_false]; rfl
    rw [e]
    simp only [go_sem, seval]
    exact ⟨own, ⟨X, h1⟩, hu0⟩
   | true =>
    have e : h.set_ t b d = ({ h with ca := (h.ca.set_ b d).1 }, (h.ca.set_ b d).2) := by unfold Ha.set_; rw [hr]; simp only [hla, hf, hw, decide_true, Bool.and_true, if_true]
    rw [e]
    simp only [go_sem, seval, h1.hn, hw0, nodL_len]
    refine pend_intro ((cap_set h1.ca b tf d okd).mono ?_)
    rintro r PS2 ⟨rfl, hc, hu⟩
    obtain ⟨own3, X3, h4, hu4, _⟩ := h1.setC hc hu
    simp only [go_sem, seval]
    refine ⟨own3, ⟨X3, ?_⟩, hu0.trans hu4⟩
    show HaAt PS2 n own3 { h with ca := (h.ca.set_ b d).1 } (h.ca.set_ b d).1.rds X3
    rw [rds_set]; exact h4
  ·have e : h.set_ t b d = (h, false) := by unfold Ha.set_; rw [hr]; simp only [hla, hw, decide_false, Bool.false_and]; rfl
   rw [e]
   simp only [go_sem, seval, hw]
   exact ⟨own, ⟨X, h1⟩, hu0⟩
end
section
variable {PS PS' : PL} {n : Nat} {own : List Nat} {h : Ha} {rd : Int → Option Int} {X : HaX} {B : Int}
theorem evict_ok (c : Ca) (ok : okC B c) {c' : Ca} {f : Fm} (h : c.evict = (c', some f)) : okN f.nd ∧ (f.dy = true → nodFits f.nd) := by
 have hsw := sweepF_ok (c.fs.map Ca.can) c.hand (2 * c.fs.length) (c.fs.map Fm.rf)
 unfold Ca.evict at h
 generalize sweepF (c.fs.map Ca.can) c.hand (2 * c.fs.length) (c.fs.map Fm.rf) = sw at h hsw
 obtain ⟨k, left⟩ := sw
 cases k with
 | none => cases h
 | some k =>
  have hkc := hsw.2 k rfl
  have hkl : k < c.fs.length := by
   rcases Nat.lt_or_ge k c.fs.length with h | h
   ·exact h
   ·simp [List.getD, List.getElem?_eq_none h] at hkc
  cases h
  rw [at_eq hkl]
  exact ⟨ok.nd _ (List.getElem_mem hkl), ok.fit _ (List.getElem_mem hkl)⟩
theorem rds_evict (c : Ca) (ok : okC B c) : c.evict.1.rds = c.rds := by
 have hsw := sweepF_ok (c.fs.map Ca.can) c.hand (2 * c.fs.length) (c.fs.map Fm.rf)
 unfold Ca.evict
 generalize sweepF (c.fs.map Ca.can) c.hand (2 * c.fs.length) (c.fs.map Fm.rf) = sw at hsw ⊢
 obtain ⟨k, left⟩ := sw
 cases k with
 | none => rfl
 | some k =>
  have hkc := hsw.2 k rfl
  have hsl : left.length = c.fs.length := by simpa using hsw.1
  have hkl : k < c.fs.length := by
   rcases Nat.lt_or_ge k c.fs.length with h | h
   ·exact h
   ·simp [List.getD, List.getElem?_eq_none h] at hkc
  have hkst : c.fs[k].st = 2 := by
   simp [List.getD, hkl, Ca.can] at hkc; exact hkc.1
  have hkb : (c.fs[k]).has (c.fs[k]).blk = true := has_iff.2 ⟨rfl, .inr hkst⟩
  have hfe := (find_ev c left hsl k ((k + 1) % c.fs.length)).trans (find_gone (f := Fm.free) ok hkl hkb (by decide))
  show (⟨(refs c.fs left).set k Fm.free, c.line, c.loads, (k + 1) % c.fs.length⟩ : Ca).rds = c.rds
  funext b
  unfold Ca.rds
  rw [congrFun hfe b]
  by_cases hb : b = c.fs[k].blk
  ·rw [if_pos hb]
   cases hf : c.find b with
   | none => rfl
   | some i =>
    obtain ⟨hi, hh⟩ := Ow.find_some hf
    have hik := ok.blk b i k ⟨c.fs[i], by simp [hi], hh⟩ ⟨c.fs[k], by simp [hkl], by rw [hb]; exact hkb⟩
    subst hik
    rw [Option.bind_some, at_eq hi, if_neg (by omega)]; rfl
  ·rw [if_neg hb]
   cases hf : c.find b with
   | none => rfl
   | some i =>
    obtain ⟨hi, hh⟩ := Ow.find_some hf
    have hik : ¬ k = i := by
     rintro rfl
     exact hb (has_iff.1 hh).1.symm
    have hil : i < left.length := by omega
    have e : (⟨(refs c.fs left).set k Fm.free, c.line, c.loads, (k + 1) % c.fs.length⟩ : Ca).at_ i = { c.fs[i] with rf := left[i] } := by
     unfold Ca.at_
     simp only [List.getD, List.getElem?_set_ne hik]
     rw [refs_get]
     simp [hi, hil]
    rw [Option.bind_some, Option.bind_some, e, at_eq hi]
theorem ha_look (h1 : HaAt PS n own h rd X) (ok : okH B h) (b : Int) : HCall Tryz.prog 10 [.ptr n 0 0 0, .int .i64 b] PS fun r PS' => (∃ u, r = .tup [.agg (nodL u (h.look b).1), .bool (h.look b).2]) ∧ PS' = PS := by
 obtain ⟨Y, hY⟩ := h1.ca
 refine HCall.dataQ ?_
 have h2 := fun l => h1.app l
 have hY2 := fun l => hY.app l
 refine enter_10 (by unfold Tryz.f10; exact rfl) ?_
 simp only [go_sem, seval, (h2 _).hn]
 refine pend_intro ((ca_node (hY2 _) b (fun i hi => find_lt hi) ok.ca.nd).mono ?_)
 rintro _ _ ⟨rfl, rfl⟩
 have er : (h.ca.raw.at_ b).filter (fun i => decide ((h.ca.raw.fs.getD i Fm.free).st = 2)) = h.ca.ready b := rfl
 rw [er]
 cases hr : h.ca.ready b with
 | some i =>
  have e : h.look b = ((h.ca.at_ i).nd, true) := by unfold Ha.look Ca.node; rw [hr]; rfl
  have hg : h.ca.raw.fs.getD i Fm.free = h.ca.at_ i := rfl
  rw [e]
  simp only [go_sem, seval, hg, ones_nod, nodL_len]
  exact ⟨⟨_, rfl⟩, scoped_tup.2 (by simp; exact ⟨sc_nod _ _, .bool _⟩), Ext.app _ _⟩
 | none =>
  have e : h.look b = ((h.block b).getD Nd.none, (h.block b).isSome) := by unfold Ha.look Ca.node; rw [hr]; simp only [Option.map_none]; cases h.block b <;> rfl
  rw [e]
  simp only [go_sem, seval, ones_nod, nodL_len]
  refine pend_intro ((ha_read (h2 _) b ok).mono ?_)
  rintro _ _ ⟨⟨u, rfl⟩, rfl⟩
  simp only [go_sem, seval, ones_nod, nodL_len]
  exact ⟨⟨_, rfl⟩, scoped_tup.2 (by simp; exact ⟨sc_nod _ _, .bool _⟩), Ext.app _ _⟩
theorem ha_evict (h1 : HaP PS n own h) (ok : okH B h) : HCall Tryz.prog 12 [.ptr n 0 0 0] PS fun r PS' => r = (match h.evict.2 with | some b => .tup [.int .i64 b, .bool true] | none => .tup [.int .i64 0, .bool false]) ∧ ∃ own', HaP PS' n own' h.evict.1 ∧ Ow.Upd own PS PS' own' := by
 obtain ⟨X, h1⟩ := h1
 refine enter_12 (by unfold Tryz.f12; exact rfl) ?_
 simp only [go_sem, seval, h1.hn]
 refine pend_intro ((cap_evict h1.ca ok.ca).mono ?_)
 rintro r PS1 ⟨⟨u, rfl⟩, hc, hu⟩
 obtain ⟨own1, X1, h2, hu2, _⟩ := h1.setC hc hu
 cases hev : h.ca.evict with
 | mk c o =>
  cases o with
  | none =>
   have e : h.evict = ({ h with ca := c }, none) := by unfold Ha.evict; rw [hev]
   rw [e]
   simp only [go_sem, seval, ones_nod, nodL_len]
   refine ⟨own1, ⟨X1, ?_⟩, hu2.more _⟩
   have hrd := rds_evict h.ca ok.ca
   rw [hev] at hrd h2
   show HaAt _ n own1 { h with ca := c } c.rds X1
   rw [hrd]; exact h2.app _
  | some f =>
   have e : h.evict = ((if f.dy then { h with ca := c }.setB f.blk f.nd else { h with ca := c }), some f.blk) := by unfold Ha.evict; rw [hev]
   rw [e]
   have hrd := rds_evict h.ca ok.ca
   rw [hev] at hrd h2
   have hfd := evict_ok h.ca ok.ca hev
   cases hdy : f.dy with
   | false =>
    simp only [go_sem, seval, nodL, hdy]
    refine ⟨own1, ⟨X1, ?_⟩, hu2.more _⟩
    show HaAt _ n own1 { h with ca := c } c.rds X1
    rw [hrd]; exact h2.app _
   | true =>
    simp only [go_sem, seval, nodL, hdy]
    have h3 := h2.app [.arr 0 5 [nodL u f.nd] false]
    refine pend_intro ((ha_write h3 f.blk u f.nd hfd.1 (hfd.2 hdy)).mono ?_)
    rintro _ PS2 ⟨h4, hu4⟩
    simp only [go_sem, seval]
    refine ⟨own1, ⟨X1, ?_⟩, (hu2.more _).trans hu4⟩
    have e4 : (({ h with ca := c } : Ha).setB f.blk f.nd).ca = c := by unfold Ha.setB; split <;> rfl
    show HaAt _ n own1 _ (({ h with ca := c } : Ha).setB f.blk f.nd).ca.rds X1
    rw [e4, hrd]; exact h4
theorem ha_free (h1 : HaAt PS n own h rd X) (ok : okH B h) : HCall Tryz.prog 13 [.ptr n 0 0 0] PS fun r PS' => r = .int .i64 h.ca.frees ∧ PS' = PS := by
 obtain ⟨Y, hY⟩ := h1.ca
 refine enter_13 (by unfold Tryz.f13; exact rfl) ?_
 simp only [go_sem, seval, h1.hn]
 refine pend_intro ((ca_frees hY (Nat.le_trans ok.ca.len (by omega))).mono ?_)
 rintro _ PS ⟨rfl, rfl⟩
 simp only [go_sem, seval]
 rfl
theorem may_fn (PS : PL) (m v : Nat) (x : Int) (a : Wn) (hm : getP PS m = .arr v 1 [[.int .i64 x]] false) : HCall Tryz.prog 85 [.agg (wnL a), .ptr m v 0 0] PS fun r PS' => r = .bool (decide (a.t = x)) ∧ PS' = PS := by
 refine HCall.data (.bool _) ?_
 refine enter_85 (by unfold Tryz.f85; exact rfl) ?_
 have hx : ∀ l, getP (PS ++ l) m = .arr v 1 [[.int .i64 x]] false := fun l => by rw [getP_app' l (getP_lt hm), hm]
 simp only [go_sem, seval, hx]
 exact Ext.app _ _
theorem may_ixf (PS : PL) (l : List Wn) (x : Int) (y : HV) (m v : Nat) (hl : l.length ≤ 1000) (h : Ow.Sees PS 2 y (l.map wnL)) (hm : getP PS m = .arr v 1 [[.int .i64 x]] false) :
  HCall Tryz.prog 114 [y, .func (.func 85) [] [.ptr m v 0 0]] PS fun r PS' => r = .int .i64 (ixI (l.findIdx? fun a => decide (a.t = x))) ∧ PS' = PS := by
 refine HCall.data (.int _ _) ?_
 have hmx : maxLen = 9223372036854775807 := rfl
 refine enter_114 (by unfold Tryz.f114; exact rfl) ?_
 simp only [go_sem, seval, h.len, List.length_map]
 intro _
 refine pend_intro (loop_rule (α := Nat) [false, false, false, false, true, true, false, false, false, true, true, true, true, true, true, true, true, true, true] (fun i => [(8, .int .i64 i)]) (fun i => l.length - i) (fun i PS' => (i ≤ l.length ∧ ∀ j a, j < i → l[j]? = some a → decide (a.t = x) = false) ∧ PS' = PS) 0 ⟨⟨Nat.zero_le _, fun j a h => absurd h (Nat.not_lt_zero _)⟩, rfl⟩ ?_ ?_)
 ·simp only [go_sem, seval, Int.natCast_zero]
 ·intro i PS' hr
  obtain ⟨⟨hi, hu⟩, rfl⟩ := hr
  by_cases hlt : i < l.length
  ·have ha1 : l[i]? = some l[i] := by simp [hlt]
   have hg : (l.map wnL)[i]? = some (wnL l[i]) := by rw [List.getElem?_map, ha1]; rfl
   simp only [go_sem, seval, hlt, h.len, h.ix hg, h.ld hg, List.length_map]
   refine pend_intro ((may_fn _ _ _ _ _ hm).mono ?_)
   rintro _ _ ⟨rfl, rfl⟩
   by_cases hx : l[i].t = x
   ·simp only [go_sem, seval, hx]
    have : (l.findIdx? fun a => decide (a.t = x)) = some i := findIdx?_found hlt (by simp [hx]) hu
    rw [this]
    exact ⟨rfl, Ext.refl _⟩
   ·simp only [go_sem, seval, hx]
    refine ⟨by omega, i + 1, by omega, ⟨by omega, fun j a hj hja => ?_⟩, by simp⟩
    by_cases hji : j < i
    ·simpa using hu j a hji hja
    ·have : j = i := by omega
     subst this; rw [ha1] at hja; cases hja; simpa using hx
  ·simp only [go_sem, seval, hlt, List.length_map]
   have : (l.findIdx? fun a => decide (a.t = x)) = none := findIdx?_not (fun j a hj => hu j a (by omega))
   rw [this]
   exact ⟨rfl, Ext.refl _⟩
theorem rows_wn (l : List Wn) : ∀ r ∈ l.map wnL, r.length = 2 := by intro r hr; simp at hr; obtain ⟨a, _, rfl⟩ := hr; rfl
theorem may_any (PS : PL) (l : List Wn) (x : Int) (m v : Nat) (hl : l.length ≤ 8) (hm : getP PS m = .arr v 1 [[.int .i64 x]] false) :
  HCall Tryz.prog 83 [.imm false (l.map wnL), .func (.func 85) [] [.ptr m v 0 0]] PS fun r PS' => r = .bool (l.any fun a => decide (a.t = x)) ∧ PS' = PS := by
 refine enter_83 (by unfold Tryz.f83; exact rfl) ?_
 simp only [go_sem, seval]
 refine pend_intro ((may_ixf PS l x _ m v (by omega) (Ow.Sees.imm PS false (rows_wn l)) hm).mono ?_)
 rintro _ PS ⟨rfl, rfl⟩
 simp only [go_sem, seval]
 rw [← List.findIdx?_isSome]
 cases (l.findIdx? fun a => decide (a.t = x)) with
 | none => rfl
 | some i =>
  have : (0 : Int) ≤ i := by omega
  show HV.bool (decide ((0 : Int) ≤ i)) = _
  rw [decide_eq_true this]; rfl
theorem ha_may (h1 : HaAt PS n own h rd X) (ok : okH B h) (t : Int) : HCall Tryz.prog 45 [.ptr n 0 0 0, .int .i64 t] PS fun r PS' => r = .bool (h.may t) ∧ PS' = PS := by
 have hmx : maxLen = 9223372036854775807 := rfl
 have hfl := ok.ca.len
 have hll := ok.lts
 refine HCall.data (.bool _) ?_
 refine enter_45 (by unfold Tryz.f45; exact rfl) ?_
 have h2 := h1.app [.arr 0 1 [[.int .i64 t]] false]
 have hm := getP_last PS (.arr 0 1 [[.int .i64 t]] false)
 have hx0 : Ext [] PS (PS ++ [.arr 0 1 [[.int .i64 t]] false]) := Ext.app _ _
 simp only [go_sem, seval, h2.hn, h2.hl]
 generalize PS ++ [.arr 0 1 [[.int .i64 t]] false] = PS1 at h2 hm hx0 ⊢
 intro _
 refine pend_intro (loop_rule (α := Nat) [false, false, false, false, true, false, true, false, false, false, false, false, false, true, true, true, true, true, true, true, true] (fun i => [(12, .int .i64 i)]) (fun i => h.lt.length - i) (fun i PS' => (i ≤ h.lt.length ∧ ∀ j l, j < i → h.lt[j]? = some l → l.waits t = false) ∧ PS' = PS1) 0 ⟨⟨Nat.zero_le _, fun j l h => absurd h (Nat.not_lt_zero _)⟩, rfl⟩ ?_ ?_)
 ·simp only [go_sem, seval, Int.natCast_zero]
 ·rintro i PS2 ⟨⟨hi, hu⟩, rfl⟩
  by_cases hlt : i < h.lt.length
  ·have hil : i < X.lp.length := by rw [h1.lpl]; exact hlt
   have ha1 : h.lt[i]? = some h.lt[i] := by simp [hlt]
   have hg : (X.lp.map fun p => [HV.ptr p 0 0 0])[i]? = some [.ptr X.lp[i] 0 0 0] := by simp [hil]
   have hL := h2.lat i X.lp[i] h.lt[i] (by simp [hil]) ha1
   have okl := ok.lat _ (List.getElem_mem hlt)
   simp only [go_sem, seval, hlt, h2.hl, hg]
   refine pend_intro ((latch_queue _ _ _ _ hL okl).mono ?_)
   rintro _ PS2 ⟨rfl, rfl⟩
   simp only [go_sem, seval]
   refine pend_intro ((may_any _ h.lt[i].q t _ _ okl.q_len hm).mono ?_)
   rintro _ PS2 ⟨rfl, rfl⟩
   have hw : (h.lt[i].q.any fun a => decide (a.t = t)) = h.lt[i].waits t := rfl
   rw [hw]
   cases hc : h.lt[i].waits t with
   | true =>
    have e : h.may t = false := by
     unfold Ha.may
     have : (h.lt.all fun l => !l.waits t) = false := List.all_eq_false.2 ⟨_, List.getElem_mem hlt, by simp [hc]⟩
     rw [this]; rfl
    rw [e]
    simp only [go_sem, seval]
    exact hx0
   | false =>
    simp only [go_sem, seval]
    refine ⟨⟨by omega, by omega⟩, i + 1, by omega, ⟨by omega, fun j l hj hjl => ?_⟩, by simp⟩
    by_cases hji : j < i
    ·exact hu j l hji hjl
    ·have : j = i := by omega
     subst this; rw [ha1] at hjl; cases hjl; exact hc
  ·obtain ⟨Y, hY⟩ := h2.ca
   have e : h.may t = h.ca.may t := by
    unfold Ha.may
    have : (h.lt.all fun l => !l.waits t) = true := List.all_eq_true.2 fun l hl => by
     obtain ⟨j, hj, rfl⟩ := List.getElem_of_mem hl
     rw [hu j _ (by omega) (by simp [hj])]; rfl
    rw [this]; rfl
   rw [e]
   simp only [go_sem, seval, hlt, h2.hn, hm]
   refine pend_intro (Reads.to (fun PS3 hp => ca_May (hY.pre hp) t (Nat.le_trans ok.ca.line_len (by omega)) (Nat.le_trans hfl (by omega))) ?_)
   simp only [go_sem, seval]
   refine ⟨?_, hx0⟩
   have hw := waits_sat hY t
   unfold waitsB
   rw [hw]
   unfold Ca.may
   cases sat h.ca.loads t <;> rfl
end
section
variable {PS PS' : PL} {n : Nat} {own : List Nat} {h : Ha} {rd : Int → Option Int} {X : HaX} {B : Int}
theorem ha_idle (h1 : HaAt PS n own h rd X) (ok : okH B h) : HCall Tryz.prog 15 [.ptr n 0 0 0] PS fun r PS' => r = .bool h.idle ∧ PS' = PS := by
  have hmx : maxLen = 9223372036854775807 := rfl
  have hfl := ok.ca.len
  have hll := ok.lts
  obtain ⟨Y, hY⟩ := h1.ca
  refine HCall.data (.bool _) ?_
  refine enter_15 (by unfold Tryz.f15; exact rfl) ?_
  simp only [go_sem, seval, -List.reduceReplicate, h1.hn]
  refine pend_intro ((ca_Frames hY (Nat.le_trans hfl (by omega)) ok.ca.nd).mono ?_)
  intro r PS1 hb
  have hs := hb.sees
  simp only [go_sem, seval, -List.reduceReplicate, hs.len, List.length_map]
  intro _
  refine pend_intro (loop_rule (α := Nat) [false, false, true, true, true, false, false, false, false, false, false, false, true, true, true, true, true, true, true, true, true, true, true, true, true, true, true, true, true, true, true, true, true, true, true, true, true, true, true, true, true] (fun i => [(11, .int .i64 i)]) (fun i => h.ca.fs.length - i) (fun i PS' => (i ≤ h.ca.fs.length ∧ ∀ j f l, j < i → h.ca.fs[j]? = some f → h.lt[j]? = some l → Ha.rest f l = true) ∧ Bld PS PS' 13 r (h.ca.fs.map frO)) 0 ⟨⟨Nat.zero_le _, fun j f l h => absurd h (Nat.not_lt_zero _)⟩, hb⟩ ?_ ?_)
  · simp only [go_sem, seval, -List.reduceReplicate, Int.natCast_zero]
  · rintro i PS2 ⟨⟨hi, hu⟩, hb⟩
    have hs := hb.sees
    have h2 := h1.ext hb.ext
    by_cases hlt : i < h.ca.fs.length
    · have hlt2 : i < h.lt.length := by omega
      have hil : i < X.lp.length := by rw [h1.lpl]; exact hlt2
      have hg : (h.ca.fs.map frO)[i]? = some (frO h.ca.fs[i]) := by simp [hlt]
      have ha1 : h.lt[i]? = some h.lt[i] := by simp [hlt2]
      have hgp : (X.lp.map fun p => [HV.ptr p 0 0 0])[i]? = some [.ptr X.lp[i] 0 0 0] := by simp [hil]
      have hfp := fun q => getP_last PS2 q
      have h3 := fun q => h2.app [q]
      have okl := ok.lat _ (List.getElem_mem hlt2)
      have bad : Ha.rest h.ca.fs[i] h.lt[i] = false → h.idle = false := fun hr => by
        unfold Ha.idle
        have : ((h.ca.fs.zip h.lt).all fun p => Ha.rest p.1 p.2) = false := List.all_eq_false.2 ⟨(h.ca.fs[i], h.lt[i]), List.mem_iff_getElem?.2 ⟨i, by rw [List.getElem?_zip_eq_some]; exact ⟨by simp [hlt], ha1⟩⟩, by simp [hr]⟩
        rw [this]; rfl
      have pinc : (decide (h.ca.fs[i].st = 0) || decide (h.ca.fs[i].st = 2)) = true → ¬ 0 < h.ca.fs[i].pins → Ha.rest h.ca.fs[i] h.lt[i] = (h.lt[i].opn true && h.lt[i].q.isEmpty) := fun h1 h2 => by
        unfold Ha.rest
        have : h.ca.fs[i].pins ≤ 0 := by omega
        rw [h1, decide_eq_true this, Bool.true_and, Bool.true_and]
      simp only [go_sem, seval, -List.reduceReplicate, hlt, hs.len, hs.ix hg, hs.ld hg, List.length_map]
      by_cases hp : 0 < h.ca.fs[i].pins
      · have hre : h.idle = false := bad (by have : ¬ h.ca.fs[i].pins ≤ 0 := by omega
                                             simp [Ha.rest, this])
        rw [hre]
        by_cases hs0 : h.ca.fs[i].st = 0
        · simp only [go_sem, seval, -List.reduceReplicate, hlt, List.length_map, frO, nodL, hfp, hs0, hp]
          exact hb.ext.trans (Ext.app _ _)
        · by_cases hs2 : h.ca.fs[i].st = 2
          · simp only [go_sem, seval, -List.reduceReplicate, hlt, List.length_map, frO, nodL, hfp, hs0, hs2, hp]
            exact hb.ext.trans (Ext.app _ _)
          · simp only [go_sem, seval, -List.reduceReplicate, hlt, List.length_map, frO, nodL, hfp, hs0, hs2, hp]
            exact hb.ext.trans (Ext.app _ _)
      · by_cases hs0 : h.ca.fs[i].st = 0
        · simp only [go_sem, seval, -List.reduceReplicate, hlt, List.length_map, frO, nodL, hfp, hs0, hp, (h3 _).hn, (h3 _).hl, hgp]
          refine ⟨hlt2, pend_intro ((latch_idle _ _ _ _ ((h3 _).lat i X.lp[i] h.lt[i] (by simp [hil]) ha1)).mono ?_)⟩
          rintro _ PS3 ⟨rfl, rfl⟩
          have hre := pinc (by simp [hs0]) hp
          cases hc : (h.lt[i].opn true && h.lt[i].q.isEmpty) with
          | false =>
            rw [bad (hre.trans hc)]
            simp only [go_sem, seval, -List.reduceReplicate]
            exact hb.ext.trans (Ext.app _ _)
          | true =>
            simp only [go_sem, seval, -List.reduceReplicate]
            refine ⟨⟨by omega, by omega⟩, i + 1, by omega, ⟨⟨by omega, fun j f l hj hf hl => ?_⟩, hb.more _⟩, rfl⟩
            by_cases hji : j < i
            · exact hu j f l hji hf hl
            · have : j = i := by omega
              subst this
              rw [List.getElem?_eq_getElem hlt] at hf
              rw [ha1] at hl
              cases hf; cases hl
              exact hre.trans hc
        · by_cases hs2 : h.ca.fs[i].st = 2
          · simp only [go_sem, seval, -List.reduceReplicate, hlt, List.length_map, frO, nodL, hfp, hs0, hs2, hp, (h3 _).hn, (h3 _).hl, hgp]
            refine ⟨hlt2, pend_intro ((latch_idle _ _ _ _ ((h3 _).lat i X.lp[i] h.lt[i] (by simp [hil]) ha1)).mono ?_)⟩
            rintro _ PS3 ⟨rfl, rfl⟩
            have hre := pinc (by simp [hs2]) hp
            cases hc : (h.lt[i].opn true && h.lt[i].q.isEmpty) with
            | false =>
              rw [bad (hre.trans hc)]
              simp only [go_sem, seval, -List.reduceReplicate]
              exact hb.ext.trans (Ext.app _ _)
            | true =>
              simp only [go_sem, seval, -List.reduceReplicate]
              refine ⟨⟨by omega, by omega⟩, i + 1, by omega, ⟨⟨by omega, fun j f l hj hf hl => ?_⟩, hb.more _⟩, rfl⟩
              by_cases hji : j < i
              · exact hu j f l hji hf hl
              · have : j = i := by omega
                subst this
                rw [List.getElem?_eq_getElem hlt] at hf
                rw [ha1] at hl
                cases hf; cases hl
                exact hre.trans hc
          · have hre : h.idle = false := bad (by simp [Ha.rest, hs0, hs2])
            rw [hre]
            simp only [go_sem, seval, -List.reduceReplicate, hlt, List.length_map, frO, nodL, hfp, hs0, hs2, hp]
            exact hb.ext.trans (Ext.app _ _)
    · obtain ⟨Y2, hY2⟩ := h2.ca
      simp only [go_sem, seval, -List.reduceReplicate, hlt, h2.hn, List.length_map]
      refine pend_intro ((ca_line hY2 (Nat.le_trans ok.ca.line_len (by omega))).mono ?_)
      rintro _ PS2 ⟨rfl, rfl⟩
      simp only [go_sem, seval, -List.reduceReplicate, List.length_map]
      intro _
      refine ⟨?_, hb.ext⟩
      have hall : ((h.ca.fs.zip h.lt).all fun p => Ha.rest p.1 p.2) = true := List.all_eq_true.2 fun p hp => by
        obtain ⟨j, hj⟩ := List.getElem?_of_mem hp
        obtain ⟨a1, a2⟩ := List.getElem?_zip_eq_some.1 hj
        have := (List.getElem?_eq_some_iff.1 a1).1
        exact hu j _ _ (by omega) a1 a2
      unfold Ha.idle
      rw [hall]
      cases h.ca.line with
      | nil => rfl
      | cons a l =>
        have : ¬ (((l.length + 1 : Nat) : Int) = 0) := by omega
        simp only [List.length_cons, decide_eq_false this]; rfl
end
def Ha.new (blocks frames : Nat) : Ha := ⟨Ca.new frames, some Ha.leaf0 :: List.replicate (blocks - 1) none, List.replicate frames Lt.none⟩
theorem leaf0_fit : okN Ha.leaf0 ∧ nodFits Ha.leaf0 := by
 refine ⟨⟨by simp [Ha.leaf0], by simp [Ha.leaf0], by simp [Ha.leaf0], by simp [Ha.leaf0]⟩, ?_, ?_⟩
 ·unfold nodOk Ha.leaf0
  rw [if_pos rfl]
  exact ⟨fun i a b _ h _ => by simp at h, rfl, rfl, rfl⟩
 ·simp [nodBytes, Ha.leaf0, entsBytes]
theorem ha_write0 (PS : PL) (n : Nat) (xs : HV) (os : List Nat) (m : Shelf) (a c d' : HV) (hn : getP PS n = .arr 0 4 [[a, xs, c, d']] false) (hs : StoreP PS xs os m) (b : Int) (t : Fl) (d : Nd) (okd : okN d) (fit : nodFits d) :
  HCall Tryz.prog 21 [.ptr n 0 0 0, .int .i64 b, .agg (nodL t d)] PS fun _ PS' => StoreP PS' xs os (m.write b (encB d)).2 ∧ Ext os PS PS' := by
 have hx0 : Ext os PS (PS ++ [.arr 0 5 [nodL t d] false]) := (Ext.app _ _).mono (by simp)
 have hw0 := getP_last PS (.arr 0 5 [nodL t d] false)
 have h2 := (getP_app' [.arr 0 5 [nodL t d] false] (getP_lt hn)).trans hn
 have hs2 := hs.app [.arr 0 5 [nodL t d] false]
 obtain ⟨p, q, u, vp, vq, vu, k, bs, rfl, _⟩ := id hs
 refine enter_21 (by unfold Tryz.f21; exact rfl) ?_
 simp only [go_sem, seval, ones_nod, nodL_len]
 generalize PS ++ [.arr 0 5 [nodL t d] false] = PS1 at hx0 hw0 h2 hs2 ⊢
 refine pend_intro ((codec_encode t d okd fit).call ?_)
 simp only [go_sem, seval, h2]
 refine pend_intro ((P_Write hs2 b false (encB d)).mono ?_)
 rintro r PS2 ⟨rfl, he, hs3⟩
 simp only [go_sem, seval]
 exact ⟨hs3, (hx0.since he fun q hq => .inl hq)⟩
theorem LaP.new (PS : PL) : LaP (PS ++ [.arr 0 4 [[.int .i64 0, .imm true [], .int .i64 (-1), .imm true []]] false]) PS.length [PS.length] Lt.none :=
 ⟨.imm true [], .imm true [], [], [], getP_last _ _, .inl ⟨rfl, rfl, rfl⟩, .inl ⟨rfl, rfl, rfl⟩, rfl, by simp⟩
structure HaMk (PS0 PS : PL) (p r ps pc : Nat) (os oc : List Nat) (c : Ca) (m : Shelf) (x : HV) (o : List Nat) (lp : List Nat) (lo : Nat → List Nat) (col : Nat → Nat) : Prop where
 hp : getP PS p = .arr 0 4 [[.ptr pc 0 0 0, .ptr ps 0 0 0, x, .ref r 0]] false
 hr : getP PS r = .map 0 0 .i64 []
 hc : CaP PS pc oc c
 hs : StoreP PS (.ptr ps 0 0 0) os m
 hx : SlE PS 1 x o (lp.map fun q => [.ptr q 0 0 0])
 lat : ∀ (j : Nat) (q : Nat), lp[j]? = some q → LaP PS q (lo j) Lt.none
 co : ∀ q ∈ o, col q = 3 ∧ PS0.length ≤ q
 cl : ∀ j, ∀ q ∈ lo j, col q = 5 + j ∧ PS0.length ≤ q
 out : ∀ j, lp.length ≤ j → lo j = []
 ext : ∀ q, q < PS0.length → q ≠ p → getP PS q = getP PS0 q
 len : PS0.length ≤ PS.length
theorem HaMk.step {PS0 PS PS' : PL} {p r ps pc : Nat} {os oc : List Nat} {c : Ca} {m : Shelf} {x x' : HV} {o o' : List Nat} {lp : List Nat} {lo : Nat → List Nat} {col : Nat → Nat} (h : HaMk PS0 PS p r ps pc os oc c m x o lp lo col)
  (hp : p < PS0.length) (hr : r < PS0.length) (hrp : r ≠ p) (hoc : ∀ q ∈ oc, q < PS0.length ∧ q ≠ p) (hos : ∀ q ∈ os, q < PS0.length ∧ q ≠ p)
  (hx : SlE PS' 1 x' o' ((lp.map fun q => [HV.ptr q 0 0 0]) ++ [[.ptr PS.length 0 0 0]])) (hu : Ow.Upd o (PS ++ [.arr 0 4 [[.int .i64 0, .imm true [], .int .i64 (-1), .imm true []]] false]) PS' o') :
  HaMk PS0 (PS'.set p (.arr 0 4 [[.ptr pc 0 0 0, .ptr ps 0 0 0, x', .ref r 0]] false)) p r ps pc os oc c m x' o' (lp ++ [PS.length]) (fun j => if j = lp.length then [PS.length] else lo j) (fun q => if q = PS.length then 5 + lp.length else if q < PS.length then col q else 3) := by
 have hlt := h.len
 have hlen : PS.length + 1 ≤ PS'.length := by simpa using hu.1.1
 have hk : ∀ q, q < PS.length → col q ≠ 3 ∨ q < PS0.length → getP PS' q = getP PS q := fun q hq hc => by
  rw [hu.1.2 q (by simp; omega) (fun hm => by
   have := h.co q hm
   rcases hc with hc | hc
   ·exact hc this.1
   ·omega), getP_app' _ hq]
 have hk2 : ∀ q Q, q < PS.length → (col q ≠ 3 ∨ q < PS0.length) → q ≠ p → getP (PS'.set p Q) q = getP PS q := fun q Q h1 h2 h3 => (getP_set_ne _ h3.symm).trans (hk q h1 h2)
 have hnew : getP PS' PS.length = .arr 0 4 [[.int .i64 0, .imm true [], .int .i64 (-1), .imm true []]] false := by
  rw [hu.1.2 PS.length (by simp) (fun hm => by
   have h1 := h.hx.slO.lt _ hm
   omega), getP_last]
 have ho' : ∀ q ∈ o', (q ∈ o ∨ PS.length + 1 ≤ q) := fun q hq => by simpa using hu.2 q hq
 exact {
  hp := getP_set_self _ (by omega)
  hr := (hk2 r _ (by omega) (.inr hr) hrp).trans h.hr
  hc := CaP.keep h.hc (fun q hq => hk2 q _ (by have := (hoc q hq).1; omega) (.inr (hoc q hq).1) (hoc q hq).2) (by simp; omega)
  hs := h.hs.frame fun q hq => hk2 q _ (by have := (hos q hq).1; omega) (.inr (hos q hq).1) (hos q hq).2
  hx := by
   rw [List.map_append]
   refine hx.keep fun q hq => getP_set_ne _ ?_
   rcases ho' q hq with h1 | h1
   ·have := (h.co q h1).2; omega
   ·omega
  lat := fun j q hj => by
   by_cases hjl : j < lp.length
   ·rw [List.getElem?_append_left hjl] at hj
    have hne : ¬ j = lp.length := by omega
    simp only [if_neg hne]
    refine (h.lat j q hj).keep fun k hkk => ?_
    have h1 := h.cl j k hkk
    have h2 := (h.lat j q hj).lt k hkk
    exact hk2 k _ h2 (.inl (by omega)) (by omega)
   ·have hjj : j = lp.length := by
     have := (List.getElem?_eq_some_iff.1 hj).1
     simp at this; omega
    subst hjj
    simp at hj
    subst hj
    simp only [if_pos]
    refine (LaP.new PS).keep fun k hkk => ?_
    simp at hkk; subst hkk
    rw [getP_set_ne _ (by omega), hnew, getP_last]
  co := fun q hq => by
   rcases ho' q hq with h1 | h1
   ·have h2 := h.hx.slO.lt q h1
    have h3 := h.co q h1
    have h4 : ¬ q = PS.length := by omega
    simp only [if_neg h4, if_pos h2]
    exact h3
   ·have h4 : ¬ q = PS.length := by omega
    have h5 : ¬ q < PS.length := by omega
    simp only [if_neg h4, if_neg h5]
    exact ⟨trivial, by omega⟩
  cl := fun j q hq => by
   by_cases hjj : j = lp.length
   ·simp only [if_pos hjj] at hq
    simp at hq; subst hq
    simp only [if_pos]
    exact ⟨by omega, by omega⟩
   ·simp only [if_neg hjj] at hq
    rcases Nat.lt_or_ge j lp.length with hl | hl
    ·have h2 := (h.lat j lp[j] (by simp [hl])).lt q hq
     have h3 := h.cl j q hq
     have h4 : ¬ q = PS.length := by omega
     simp only [if_neg h4, if_pos h2]
     exact h3
    ·rw [h.out j hl] at hq; cases hq
  out := fun j hj => by
   simp at hj
   have hjj : ¬ j = lp.length := by omega
   simp only [if_neg hjj]
   exact h.out j (by omega)
  ext := fun q hq hqp => (hk2 q _ (by omega) (.inr hq) hqp).trans (h.ext q hq hqp)
  len := by simp; omega }
theorem ha_new (PS : PL) (b f : Nat) (hb1 : 1 ≤ b) (hb2 : b ≤ 256) (hf1 : 1 ≤ f) (hf2 : f ≤ 64) : HCall Tryz.prog 4 [.int .i64 b, .int .i64 f] PS fun r PS' => ∃ p own, r = .tup [.ptr p 0 0 0, .int .i64 0] ∧ HaP PS' p own (Ha.new b f) ∧ Ext [] PS PS' ∧ ∀ q ∈ own, PS.length ≤ q := by
 refine enter_4 (by unfold Tryz.f4; exact rfl) ?_
 simp only [go_sem, seval]
 refine pend_intro ((P_New PS b hb1 hb2).mono ?_)
 rintro _ PS1 ⟨ps, os, rfl, he1, ho1, hs1⟩
 simp only [go_sem, seval]
 refine pend_intro ((ca_new PS1 f hf1 hf2).mono ?_)
 rintro _ PS2 ⟨pc, oc, rfl, hc2, he2, ho2⟩
 have hs2 : StoreP PS2 (.ptr ps 0 0 0) os (List.replicate b none) := hs1.frame fun q hq => he2.2 q (hs1.lt q hq) (by simp)
 have hosl := hs1.lt
 have hocl := CaP.lt hc2
 simp only [go_sem, seval]
 have hM0 : HaMk (PS2 ++ [.map 0 0 .i64 [], .arr 0 4 [[.ptr pc 0 0 0, .ptr ps 0 0 0, .imm true [], .ref PS2.length 0]] false]) (PS2 ++ [.map 0 0 .i64 [], .arr 0 4 [[.ptr pc 0 0 0, .ptr ps 0 0 0, .imm true [], .ref PS2.length 0]] false]) (PS2.length + 1) PS2.length ps pc os oc (Ca.new f) (List.replicate b none) (.imm true []) [] [] (fun _ => []) (fun _ => 0) :=
  ⟨by simp [getP, List.getD], by simp [getP, List.getD], CaP.keep hc2 (fun q hq => getP_app' _ (hocl q hq)) (by simp), hs2.app _, SlE.nil _ _, by simp, by simp, by simp, fun _ _ => rfl, fun _ _ _ => rfl, Nat.le_refl _⟩
 have hl0 : (PS2 ++ [Piece.map 0 0 .i64 [], .arr 0 4 [[.ptr pc 0 0 0, .ptr ps 0 0 0, .imm true [], .ref PS2.length 0]] false]).length = PS2.length + 2 := by simp
 have hex : Ext [] PS2 (PS2 ++ [Piece.map 0 0 .i64 [], .arr 0 4 [[.ptr pc 0 0 0, .ptr ps 0 0 0, .imm true [], .ref PS2.length 0]] false]) := Ext.app _ _
 generalize PS2 ++ [.map 0 0 .i64 [], .arr 0 4 [[.ptr pc 0 0 0, .ptr ps 0 0 0, .imm true [], .ref PS2.length 0]] false] = PS0 at hM0 hl0 hex ⊢
 refine pend_intro (loop_rule (α := Nat) [false, false, false, false, false, false, false, false, false, false, false, false, false, false, false, false, false, false, false, false, false, false, false, false, false, false, false, false, false, false, false, false, false, false, false, false, true, true, true, true, true, true, true, true, true, true, true, true] (fun i => [(35, .int .i64 i)]) (fun i => f - i) (fun i PS' => i ≤ f ∧ ∃ x o lp lo col, lp.length = i ∧ HaMk PS0 PS' (PS2.length + 1) PS2.length ps pc os oc (Ca.new f) (List.replicate b none) x o lp lo col) 0 ⟨Nat.zero_le _, _, _, _, _, _, rfl, hM0⟩ ?_ ?_)
 ·simp only [go_sem, seval, Int.natCast_zero]
 ·rintro i PS3 ⟨hi, x, o, lp, lo, col, hlp, hM⟩
  by_cases hlt : i < f
  ·simp only [go_sem, seval, hlt, hM.hp]
   refine pend_intro ((latch_new PS3).mono ?_)
   rintro _ _ ⟨rfl, rfl⟩
   have hp4 := fun l => (getP_app' l (getP_lt hM.hp)).trans hM.hp
   simp only [go_sem, seval, hp4]
   have hrl : (lp.map fun q => [HV.ptr q 0 0 0]).length ≤ 64 := by simp; omega
   have hx4 : SlE (PS3 ++ [.arr 0 4 [[.int .i64 0, .imm true [], .int .i64 (-1), .imm true []]] false]) 1 x o (lp.map fun q => [.ptr q 0 0 0]) := hM.hx.keep fun q hq => getP_app' _ (hM.hx.slO.lt q hq)
   refine ⟨by simp, hx4.app (by simp) (by simp) (by simp only [hroom, List.length_cons, List.length_nil]; omega) fun x' PS5 o' hx5 hu5 h1 => ?_⟩
   have hpl := getP_lt hM.hp
   have hp5 := (hu5.1.2 (PS2.length + 1) (by simp; omega) fun hm => by have := (hM.co _ hm).2; omega).trans (hp4 _)
   simp only [go_sem, seval, hp5, hst_one h1]
   have hM2 := hM.step (by omega) (by omega) (by omega) (fun q hq => by have := hocl q hq; omega) (fun q hq => by have := hosl q hq; have := he2.1; omega) hx5 hu5
   exact ⟨⟨by omega, by omega⟩, i + 1, by omega, ⟨by omega, x', o', _, _, _, by simp [hlp], hM2⟩, rfl⟩
  ·simp only [go_sem, seval, hlt]
   have hif : i = f := by omega
   refine pend_intro ((P_Alloc hM.hs).mono ?_)
   rintro _ PS4 ⟨rfl, he4, hs4⟩
   have ha : Shelf.alloc (List.replicate b none) = (0, 0, (List.replicate b none).set 0 (some zeros)) := by
    unfold Shelf.alloc
    cases b with
    | zero => omega
    | succ b => rfl
   rw [ha] at hs4 ⊢
   simp only [go_sem, seval]
   have hnos : ∀ q, PS2.length ≤ q → q ∉ os := fun q hq hm => by have := hosl q hm; have := he2.1; omega
   have hpl := getP_lt hM.hp
   have hp4 := (he4.2 _ hpl (hnos _ (by omega))).trans hM.hp
   refine pend_intro ((ha_write0 PS4 _ (.ptr ps 0 0 0) os _ _ _ _ hp4 hs4 0 ⟨true, true, true, true⟩ Ha.leaf0 leaf0_fit.1 leaf0_fit.2).mono ?_)
   rintro _ PS5 ⟨hs5, he5⟩
   simp only [go_sem, seval]
   have he35 : Ext os PS3 PS5 := he4.since he5 fun q hq => .inl hq
   have hk : ∀ q, q < PS3.length → q ∉ os → getP PS5 q = getP PS3 q := fun q h1 h2 => he35.2 q h1 h2
   have hsh : (Shelf.write ((List.replicate b none).set 0 (some zeros)) 0 (encB Ha.leaf0)).2 = (Ha.new b f).shelf := by
    cases b with
    | zero => omega
    | succ b =>
     have hl : (encB Ha.leaf0).length = 256 := encB_len leaf0_fit.1 leaf0_fit.2
     simp [Shelf.write, Shelf.get, Ha.shelf, Ha.new, List.replicate_succ, hl]
   rw [hsh] at hs5
   have hpr : lp ≠ [] := by intro e; rw [e] at hlp; simp at hlp; omega
   rcases hM.hx.1 with ⟨h0, _⟩ | ⟨hR, pl, vl, rfl, hg, rfl⟩
   ·exact absurd (List.map_eq_nil_iff.1 h0) hpr
   have hplc := hM.co pl (by simp)
   have hpll := getP_lt hg
   have hsP0 : ∀ q ∈ os, q < PS1.length := hosl
   have hlen12 := he2.1
   refine ⟨PS2.length + 1, (PS2.length + 1) :: PS2.length :: pl :: (oc ++ os ++ (List.range f).flatMap lo), rfl, ⟨⟨fun q => if q = PS2.length + 1 then 0 else if q = PS2.length then 4 else if q < PS1.length then 2 else if q < PS2.length then 1 else col q, pc, oc, .ptr ps 0 0 0, os, pl, vl, lp, lo, PS2.length, 0, []⟩, ?_⟩, ?_, ?_⟩
   ·have hlo : ∀ j, ∀ q ∈ lo j, PS2.length + 2 ≤ q ∧ q < PS3.length ∧ col q = 5 + j := fun j q hq => by
     have h1 := hM.cl j q hq
     rcases Nat.lt_or_ge j lp.length with hl | hl
     ·have := (hM.lat j lp[j] (by simp [hl])).lt q hq
      omega
     ·rw [hM.out j hl] at hq; cases hq
    exact {
     hn := by
      rw [hk _ hpl (hnos _ (by omega)), hM.hp]
      simp [Ha.new, hlp, hif]
     ca := CaP.keep hM.hc (fun q hq => hk q (CaP.lt hM.hc q hq) fun hm => by have := hosl q hm; have := ho2 q hq; omega) he35.1
     st := hs5
     hl := (hk pl hpll (hnos _ (by omega))).trans hg
     lpl := by simp [Ha.new, hlp, hif]
     ne := hpr
     lat := fun j q l h1 h2 => by
      have hl : l = Lt.none := by
       simp only [Ha.new, List.getElem?_replicate] at h2
       split at h2
       ·cases h2; rfl
       ·cases h2
      subst hl
      refine (hM.lat j q h1).keep fun k hkk => hk k (hlo j k hkk).2.1 (hnos _ (by have := hlo j k hkk; omega))
     hr := (hk PS2.length (by omega) (hnos PS2.length (Nat.le_refl _))).trans hM.hr
     okr := MapOk.nil
     mr := fun b' => by
      have : (Ha.new b f).reads b' = none := by
       have hn : (Ca.new f).find b' = none := List.findIdx?_eq_none_iff.2 fun g hg => by
        have := List.eq_of_mem_replicate hg
        subst this; simp [Fm.has, Fm.free]
       show (Ca.new f).rds b' = none
       unfold Ca.rds; rw [hn]; rfl
      rw [this]; rfl
     cn := by simp
     cc := fun q hq => by
      have h1 := hocl q hq
      have h2 := ho2 q hq
      have a1 : ¬ q = PS2.length + 1 := by omega
      have a2 : ¬ q = PS2.length := by omega
      have a3 : ¬ q < PS1.length := by omega
      simp only [if_neg a1, if_neg a2, if_neg a3, if_pos h1]
     cs := fun q hq => by
      have h1 := hosl q hq
      have a1 : ¬ q = PS2.length + 1 := by omega
      have a2 : ¬ q = PS2.length := by omega
      simp only [if_neg a1, if_neg a2, if_pos h1]
     cl := by
      have a1 : ¬ pl = PS2.length + 1 := by omega
      have a2 : ¬ pl = PS2.length := by omega
      have a3 : ¬ pl < PS1.length := by omega
      have a4 : ¬ pl < PS2.length := by omega
      simp only [if_neg a1, if_neg a2, if_neg a3, if_neg a4]
      exact hplc.1
     cr := by simp
     co := fun j q hq => by
      have h1 := hlo j q hq
      have a1 : ¬ q = PS2.length + 1 := by omega
      have a2 : ¬ q = PS2.length := by omega
      have a3 : ¬ q < PS1.length := by omega
      have a4 : ¬ q < PS2.length := by omega
      simp only [if_neg a1, if_neg a2, if_neg a3, if_neg a4]
      exact h1.2.2
     mn := by simp
     mc := fun q hq => by simp [hq]
     ms := fun q hq => by simp [hq]
     ml := by simp
     mr' := by simp
     mo := fun j q hq => by
      have hj : j < f := by
       rcases Nat.lt_or_ge j lp.length with hl | hl
       ·omega
       ·have hq : q ∈ lo j := hq
        rw [hM.out j hl] at hq; cases hq
      simp only [List.mem_cons, List.mem_append, List.mem_flatMap, List.mem_range]
      exact .inr (.inr (.inr (.inr ⟨j, hj, hq⟩)))
     out := fun j hj => hM.out j hj
     lt := fun q hq => by
      have := he35.1
      simp only [List.mem_cons, List.mem_append, List.mem_flatMap, List.mem_range] at hq
      rcases hq with rfl | rfl | rfl | ((hq | hq) | ⟨j, _, hq⟩)
      ·omega
      ·omega
      ·omega
      ·have := CaP.lt hM.hc q hq; omega
      ·have := hosl q hq; omega
      ·have := (hlo j q hq).2.1; omega }
   ·refine ⟨by have := he1.1; have := he35.1; omega, fun q hq _ => ?_⟩
    have h1 := he1.1
    rw [hk q (by omega) (fun hm => by have := ho1 q hm; omega), hM.ext q (by omega) (by omega), hex.2 q (by omega) (by simp), he2.2 q (by omega) (by simp), he1.2 q hq (by simp)]
   ·intro q hq
    have h1 := he1.1
    simp only [List.mem_cons, List.mem_append, List.mem_flatMap, List.mem_range] at hq
    rcases hq with rfl | rfl | rfl | ((hq | hq) | ⟨j, _, hq⟩)
    ·omega
    ·omega
    ·omega
    ·have := ho2 q hq; omega
    ·exact ho1 q hq
    ·have := (hM.cl j q hq).2; omega
end Go.Proofs.YtdjfdlpfchokcaaGreat
