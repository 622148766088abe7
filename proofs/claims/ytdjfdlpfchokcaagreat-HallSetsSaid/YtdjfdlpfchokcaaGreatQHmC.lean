/-
What is sound stays so; a leaf by numbers.
No conditions.
-/
import Derived.Test.YtdjfdlpfchokcaaGreatQHmB
import Derived.Test.YtdjfdlpfchokcaaGreatQHm2
import Derived.Test.YtdjfdlpfchokcaaGreatQHm7
import Derived.Test.YtdjfdlpfchokcaaGreatQHm5
import Derived.Test.YtdjfdlpfchokcaaGreatQHm6
set_option linter.unusedSectionVars false
set_option linter.unusedSimpArgs false
set_option linter.unusedVariables false
namespace Go.Ow
open Go Go.Eng
open Go.Mo hiding SlO SlR Sees Upd isT
variable [Toks]
section
variable {B B' : Int} {c : Ca}
theorem okC.put (ok : okC B c) (hB : B ≤ B') {i : Nat} {f : Fm} (hi : i < c.fs.length) (hn : okN f.nd) (hf : f.dy = true → nodFits f.nd) (hp : 0 ≤ f.pins ∧ f.pins ≤ B')
  (hb : f.st = 1 ∨ f.st = 2 → isB f.blk = true) (h0 : f.st ≠ 1 → f.st ≠ 2 → f.blk = -1) (hs : f.st = 0 ∨ f.st = 1 ∨ f.st = 2 ∨ f.st = 3)
  (hd : f.st = 1 → f.dy = false) (hu : ∀ b, f.has b = true → (c.fs[i]).has b = true ∨ c.find b = none) : okC B' (c.put i f) := by
 have mem : ∀ g ∈ (c.put i f).fs, g = f ∨ g ∈ c.fs := fun g hg => by
  rcases List.mem_or_eq_of_mem_set hg with h | h
  ·exact .inr h
  ·exact .inl h
 have hl : (c.put i f).fs.length = c.fs.length := by simp [Ca.put]
 refine ⟨by rw [hl]; exact ok.len, by rw [hl]; exact ok.one, fun g hg => ?_, fun g hg => ?_, fun g hg => ?_, fun b j k => ?_, fun g hg => ?_, fun g hg => ?_, fun g hg => ?_, ok.line, ok.lineT, ok.loads, ok.loadsT, by rw [hl]; exact ok.hand, fun g hg => ?_⟩
 ·rcases mem g hg with rfl | h; exact hn; exact ok.nd g h
 ·rcases mem g hg with rfl | h; exact hf; exact ok.fit g h
 ·rcases mem g hg with rfl | h
  ·exact hp
  ·have := ok.pins g h; omega
 ·rintro ⟨g1, e1, h1⟩ ⟨g2, e2, h2⟩
  have key : ∀ j g, (c.put i f).fs[j]? = some g → g.has b = true → ∃ g', c.fs[j]? = some g' ∧ (g'.has b = true ∨ c.find b = none ∧ j = i) := fun j g e h => by
   simp only [Ca.put] at e
   by_cases hj : i = j
   ·subst hj
    rw [List.getElem?_set_self hi] at e
    cases e
    refine ⟨c.fs[i], by simp [hi], ?_⟩
    rcases hu b h with h | h
    ·exact .inl h
    ·exact .inr ⟨h, rfl⟩
   ·rw [List.getElem?_set_ne hj] at e
    exact ⟨g, e, .inl h⟩
  obtain ⟨g1', e1', h1'⟩ := key j g1 e1 h1
  obtain ⟨g2', e2', h2'⟩ := key k g2 e2 h2
  have no : ∀ g, g ∈ c.fs → g.has b = true → c.find b = none → False := fun g hg h hn => by
   have := find_none hn g hg
   rw [this] at h; cases h
  rcases h1' with h1' | ⟨h1', rfl⟩
  ·rcases h2' with h2' | ⟨h2', rfl⟩
   ·exact ok.blk b j k ⟨_, e1', h1'⟩ ⟨_, e2', h2'⟩
   ·exact (no _ (List.mem_of_getElem? e1') h1' h2').elim
  ·rcases h2' with h2' | ⟨h2', rfl⟩
   ·exact (no _ (List.mem_of_getElem? e2') h2' h1').elim
   ·rfl
 ·rcases mem g hg with rfl | h; exact hb; exact ok.blkB g h
 ·rcases mem g hg with rfl | h; exact h0; exact ok.no g h
 ·rcases mem g hg with rfl | h; exact hs; exact ok.st g h
 ·rcases mem g hg with rfl | h; exact hd; exact ok.ld g h
theorem okC.le (ok : okC B c) (hB : B ≤ B') : okC B' c := { ok with pins := fun g hg => by have := ok.pins g hg; omega }
theorem diff_sub {l l' : List Int} (h : l'.Sublist l) : Diff l → Diff l' := by
 induction h with
 | slnil => exact fun _ => trivial
 | cons a h ih => exact fun hd => ih hd.2
 | cons_cons a h ih => exact fun hd => ⟨fun hm => hd.1 (h.subset hm), ih hd.2⟩
theorem diff_app : ∀ {l : List Int} {t : Int}, Diff l → t ∉ l → Diff (l ++ [t])
 | [], t, _, _ => ⟨by simp, trivial⟩
 | a :: l, t, h, hn => ⟨fun hm => by
   rcases List.mem_append.1 hm with h1 | h1
   ·exact h.1 h1
   ·exact hn (by simp [List.mem_singleton.1 h1]), diff_app h.2 fun hm => hn (by simp [hm])⟩
theorem okC.line_ (ok : okC B c) {l : List Sd} (h : l.Sublist c.line) : okC B { c with line := l } :=
 { ok with line := diff_sub (h.map _) ok.line, lineT := fun s hs => ok.lineT s (h.subset hs) }
theorem okC.loads_ (ok : okC B c) {l : List Sd} (h : l.Sublist c.loads) : okC B { c with loads := l } :=
 { ok with loads := diff_sub (h.map _) ok.loads, loadsT := fun s hs => ok.loadsT s (h.subset hs) }
theorem okC.leave (ok : okC B c) (t : Int) : okC B (c.leave t) := ok.line_ List.filter_sublist
theorem okC.ask (ok : okC B c) {t b : Int} (ht : isT t = true) (hb : b = -1 ∨ isB b = true) : okC B (c.ask t b) := by
 unfold Ca.ask
 split
 ·rename_i hn
  refine { ok with line := ?_, lineT := fun s hs => ?_ }
  ·show Diff ((c.line ++ [(⟨t, b⟩ : Sd)]).map Sd.t)
   rw [List.map_append]
   refine diff_app ok.line fun hm => ?_
   have := (sat_isSome c.line t).2 hm
   cases h : sat c.line t <;> simp [h] at hn this
  ·rcases List.mem_append.1 hs with hs | hs
   ·exact ok.lineT s hs
   ·simp at hs; subst hs; exact ⟨ht, hb⟩
 ·exact ok
theorem okC.loadsApp (ok : okC B c) {t b : Int} (ht : isT t = true) (hb : isB b = true) (hn : (sat c.loads t).isNone = true) : okC B { c with loads := c.loads ++ [⟨t, b⟩] } := by
 refine { ok with loads := ?_, loadsT := fun s hs => ?_ }
 ·show Diff ((c.loads ++ [(⟨t, b⟩ : Sd)]).map Sd.t)
  rw [List.map_append]
  refine diff_app ok.loads fun hm => ?_
  have := (sat_isSome c.loads t).2 hm
  cases h : sat c.loads t <;> simp [h] at hn this
 ·rcases List.mem_append.1 hs with hs | hs
  ·exact ok.loadsT s hs
  ·simp at hs; subst hs; exact ⟨ht, hb⟩
theorem Fm.has_iff {f : Fm} {b : Int} : f.has b = true ↔ f.blk = b ∧ (f.st = 1 ∨ f.st = 2) := by simp [Fm.has]
theorem okC.same (ok : okC B c) (hB : B ≤ B') {i : Nat} {f : Fm} (hi : i < c.fs.length) (hn : okN f.nd) (hf : f.dy = true → nodFits f.nd) (hp : 0 ≤ f.pins ∧ f.pins ≤ B')
  (h1 : f.blk = (c.at_ i).blk) (h2 : f.st = 1 ∨ f.st = 2) (h3 : (c.at_ i).st = 1 ∨ (c.at_ i).st = 2) (hd : f.st = 1 → f.dy = false) : okC B' (c.put i f) := by
 rw [at_eq hi] at h1 h3
 refine ok.put hB hi hn hf hp (fun _ => by rw [h1]; exact ok.blkB _ (List.getElem_mem hi) h3) (fun a b => by omega) (by omega) hd fun b hb => .inl ?_
 rw [Fm.has_iff] at *
 exact ⟨by rw [← h1]; exact hb.1, h3⟩
theorem at_mem {i : Nat} (hi : i < c.fs.length) : c.at_ i ∈ c.fs := by rw [at_eq hi]; exact List.getElem_mem hi
theorem none_ok : okN Nd.none := ⟨by simp [Nd.none], by simp [Nd.none], by simp [Nd.none], by simp [Nd.none]⟩
theorem okC.pin (ok : okC B c) (h0 : 0 ≤ B) (t b : Int) : okC (B + 1) (c.pin t b).1 := by
 unfold Ca.pin
 split
 ·rename_i hm
  simp only [Bool.and_eq_true] at hm
  obtain ⟨hb, hm⟩ := hm
  have hm2 := hm
  simp only [Ca.mayW, Bool.and_eq_true] at hm2
  split
  ·rename_i i hf
   obtain ⟨hi, hh⟩ := find_some hf
   have hh2 := Fm.has_iff.1 hh
   have ha := at_mem (c := c) hi
   have k1 : okC (B + 1) (c.put i { c.at_ i with pins := (c.at_ i).pins + 1, rf := true }) :=
    ok.same (by omega) hi (ok.nd (c.at_ i) ha) (ok.fit (c.at_ i) ha) (by have := ok.pins (c.at_ i) ha; simp only; omega) rfl (by rw [at_eq hi]; exact hh2.2) (by rw [at_eq hi]; exact hh2.2) (ok.ld (c.at_ i) ha)
   have k2 := k1.leave t
   simp only
   split
   ·exact k2
   ·exact k2.loadsApp hm2.1.1 hb hm2.1.2
  ·rename_i hf
   split
   ·rename_i k hk
    simp only [Ca.takes] at hk
    split at hk
    ·have hk := List.findIdx?_eq_some_iff_getElem.1 hk
     obtain ⟨hl, h1, _⟩ := hk
     have h1 : c.fs[k].st = 0 := by simpa using h1
     refine okC.leave (ok.put (by omega) hl none_ok (by simp) (by simp only; omega) (fun _ => hb) (by simp) (by simp) (by simp) fun b' hb' => ?_) t
     have := (Fm.has_iff.1 hb').1
     simp only at this
     subst this
     exact .inr hf
    ·cases hk
   ·exact (ok.le (by omega)).ask hm2.1.1 (.inr hb)
 ·exact ok.le (by omega)
theorem okC.fill (ok : okC B c) (b : Int) (n : Nd) (hn : okN n) : okC B (c.fill b n).1 := by
 unfold Ca.fill
 split
 ·rename_i i hf
  obtain ⟨hi, hh⟩ := find_some hf
  have ha := at_mem (c := c) hi
  split
  ·rename_i h1
   have : okC B (c.put i { c.at_ i with st := 2, nd := n }) := by
    exact ok.same (Int.le_refl _) hi hn (fun hd => by have := ok.ld (c.at_ i) ha h1; simp only at hd; rw [this] at hd; cases hd) (ok.pins (c.at_ i) ha) rfl (.inr rfl) (.inl h1) (by simp)
   exact this.loads_ List.filter_sublist
  ·exact ok
 ·exact ok
end
end Go.Ow
namespace Go.Proofs.YtdjfdlpfchokcaaGreat
open Go Go.Eng Go.Ow
open Go.Mo hiding SlO SlR Sees Upd isT
variable [Toks]
section
variable {B : Int} {c : Ca}
theorem ready_some {b : Int} {i : Nat} (h : c.ready b = some i) : ∃ hi : i < c.fs.length, (c.fs[i]).has b = true ∧ (c.at_ i).st = 2 := by
 unfold Ca.ready at h
 rw [Option.filter_eq_some_iff] at h
 obtain ⟨hi, hh⟩ := Ow.find_some h.1
 exact ⟨hi, hh, by simpa using h.2⟩
theorem okC.unpin (ok : okC B c) (b : Int) : okC B (c.unpin b).1 := by
 unfold Ca.unpin
 split
 ·rename_i i hr
  obtain ⟨hi, hh, h2⟩ := ready_some hr
  have ha := at_mem (c := c) hi
  split
  ·exact ok
  ·rename_i hp
   exact ok.same (Int.le_refl _) hi (ok.nd (c.at_ i) ha) (ok.fit (c.at_ i) ha) (by have := ok.pins (c.at_ i) ha; simp only; omega) rfl (.inr h2) (.inr h2) (ok.ld (c.at_ i) ha)
 ·exact ok
theorem okC.set_ (ok : okC B c) (b : Int) {n : Nd} (hn : okN n) (hf : nodFits n) : okC B (c.set_ b n).1 := by
 unfold Ca.set_
 split
 ·rename_i i hr
  obtain ⟨hi, hh, h2⟩ := ready_some hr
  have ha := at_mem (c := c) hi
  exact ok.same (Int.le_refl _) hi hn (fun _ => hf) (ok.pins (c.at_ i) ha) rfl (.inr h2) (.inr h2) (fun h => by simp only at h; omega)
 ·exact ok
theorem refs_len (fs : List Fm) (left : List Bool) (h : left.length = fs.length) : (refs fs left).length = fs.length := by simp [refs, h]
theorem refs_mem {fs : List Fm} {left : List Bool} {g : Fm} (h : g ∈ refs fs left) : ∃ f ∈ fs, ∃ b, g = { f with rf := b } := by
 obtain ⟨p, hp, rfl⟩ := List.mem_map.1 h
 exact ⟨p.1, (List.of_mem_zip hp).1, p.2, rfl⟩
theorem okC.refs_ (ok : okC B c) {left : List Bool} (hl : left.length = c.fs.length) {hd : Nat} (hh : hd < c.fs.length) : okC B ⟨refs c.fs left, c.line, c.loads, hd⟩ := by
 refine ⟨by rw [refs_len _ _ hl]; exact ok.len, by rw [refs_len _ _ hl]; exact ok.one, fun g hg => ?_, fun g hg => ?_, fun g hg => ?_, fun b j k => ?_, fun g hg => ?_, fun g hg => ?_, fun g hg => ?_, ok.line, ok.lineT, ok.loads, ok.loadsT, by rw [refs_len _ _ hl]; exact hh, fun g hg => ?_⟩
 ·obtain ⟨f, hf, b, rfl⟩ := refs_mem hg; exact ok.nd f hf
 ·obtain ⟨f, hf, b, rfl⟩ := refs_mem hg; exact ok.fit f hf
 ·obtain ⟨f, hf, b, rfl⟩ := refs_mem hg; exact ok.pins f hf
 ·rintro ⟨g1, e1, h1⟩ ⟨g2, e2, h2⟩
  have key : ∀ (j : Nat) (g : Fm), (refs c.fs left)[j]? = some g → g.has b = true → ∃ f : Fm, c.fs[j]? = some f ∧ f.has b = true := fun j g e h => by
   rw [refs_get] at e
   cases hf : c.fs[j]? with
   | none => rw [hf] at e; cases e
   | some f =>
    rw [hf, Option.bind_some] at e
    cases hb : left[j]? with
    | none => rw [hb] at e; cases e
    | some x => rw [hb] at e; cases e; exact ⟨f, rfl, h⟩
  exact ok.blk b j k (key j g1 e1 h1) (key k g2 e2 h2)
 ·obtain ⟨f, hf, b, rfl⟩ := refs_mem hg; exact ok.blkB f hf
 ·obtain ⟨f, hf, b, rfl⟩ := refs_mem hg; exact ok.no f hf
 ·obtain ⟨f, hf, b, rfl⟩ := refs_mem hg; exact ok.st f hf
 ·obtain ⟨f, hf, b, rfl⟩ := refs_mem hg; exact ok.ld f hf
theorem okC.free_ (ok : okC B c) (h0 : 0 ≤ B) {k : Nat} (hk : k < c.fs.length) : okC B (c.put k Fm.free) :=
 ok.put (Int.le_refl _) hk none_ok (by simp [Fm.free]) (by simp [Fm.free]; omega) (by simp [Fm.free]) (by simp [Fm.free]) (by simp [Fm.free]) (by simp [Fm.free]) fun b hb => by simp [Fm.free, Fm.has] at hb
theorem okC.B0 (ok : okC B c) : 0 ≤ B := by
 have h1 := ok.one
 have := ok.pins c.fs[0] (List.getElem_mem (by omega))
 omega
theorem okC.evict (ok : okC B c) : okC B c.evict.1 := by
 have hsw := sweepF_ok (c.fs.map Ca.can) c.hand (2 * c.fs.length) (c.fs.map Fm.rf)
 unfold Ca.evict
 generalize sweepF (c.fs.map Ca.can) c.hand (2 * c.fs.length) (c.fs.map Fm.rf) = sw at hsw ⊢
 obtain ⟨k, left⟩ := sw
 cases k with
 | none => exact ok
 | some k =>
  have hkc := hsw.2 k rfl
  have hsl : left.length = c.fs.length := by simpa using hsw.1
  have hkl : k < c.fs.length := by
   rcases Nat.lt_or_ge k c.fs.length with h | h
   ·exact h
   ·simp [List.getD, List.getElem?_eq_none h] at hkc
  have h1 := ok.one
  exact okC.free_ (okC.refs_ ok hsl (Nat.mod_lt (k + 1) (by omega))) (okC.B0 ok) (by rw [refs_len _ _ hsl]; exact hkl)
end
section
variable {B : Int} {h : Ha}
theorem len_pin (c : Ca) (t b : Int) : (c.pin t b).1.fs.length = c.fs.length := by
 unfold Ca.pin Ca.leave Ca.ask Ca.put
 repeat' split
 all_goals simp
theorem len_fill (c : Ca) (b : Int) (n : Nd) : (c.fill b n).1.fs.length = c.fs.length := by
 unfold Ca.fill Ca.put
 repeat' split
 all_goals simp
theorem len_unpin (c : Ca) (b : Int) : (c.unpin b).1.fs.length = c.fs.length := by
 unfold Ca.unpin Ca.put
 repeat' split
 all_goals simp
theorem len_set (c : Ca) (b : Int) (n : Nd) : (c.set_ b n).1.fs.length = c.fs.length := by
 unfold Ca.set_ Ca.put
 repeat' split
 all_goals simp
theorem len_evict (c : Ca) : c.evict.1.fs.length = c.fs.length := by
 have hsw := sweepF_ok (c.fs.map Ca.can) c.hand (2 * c.fs.length) (c.fs.map Fm.rf)
 unfold Ca.evict
 generalize sweepF (c.fs.map Ca.can) c.hand (2 * c.fs.length) (c.fs.map Fm.rf) = sw at hsw ⊢
 obtain ⟨k, left⟩ := sw
 cases k with
 | none => rfl
 | some k =>
  have hsl : left.length = c.fs.length := by simpa using hsw.1
  simp [hsl]
theorem okH.ca_ (ok : okH B h) {B' : Int} {c : Ca} (hc : okC B' c) (hl : c.fs.length = h.ca.fs.length) : okH B' { h with ca := c } :=
 { ok with ca := hc, lts := ok.lts.trans hl.symm }
theorem okH.lt_ (ok : okH B h) {i : Nat} {l : Lt} (hl : okL l) : okH B { h with lt := h.lt.set i l } :=
 { ok with
  lts := by simpa using ok.lts
  lat := fun m hm => by
   rcases List.mem_or_eq_of_mem_set hm with h | h
   ·exact ok.lat m h
   ·exact h ▸ hl }
theorem okH.setB (ok : okH B h) (b : Int) {d : Nd} (hd : okN d ∧ nodFits d) : okH B (h.setB b d) := by
 unfold Ha.setB
 split
 ·refine { ok with few := by simpa using ok.few, one := by simpa using ok.one, nd := fun e he => ?_ }
  rcases List.mem_or_eq_of_mem_set he with h | h
  ·exact ok.nd e h
  ·cases h; exact hd
 ·exact ok
theorem okH.pin (ok : okH B h) (t b : Int) : okH (B + 1) (h.pin t b).1 := by
 unfold Ha.pin
 split
 ·exact okH.ca_ ok (ok.ca.pin (okC.B0 ok.ca) t b) (len_pin _ _ _)
 ·exact { ok with ca := ok.ca.le (by omega) }
theorem okH.load (ok : okH B h) (t b : Int) : okH B (h.load t b).1 := by
 unfold Ha.load
 split
 ·refine okH.ca_ ok (ok.ca.fill b _ ?_) (len_fill _ _ _)
  cases hb : h.block b with
  | none => exact none_ok
  | some d => exact (block_nd ok hb).1
 ·exact ok
theorem lat_ok (ok : okH B h) (i : Nat) : okL (h.lat i) := by
 unfold Ha.lat
 rcases Nat.lt_or_ge i h.lt.length with hi | hi
 ·have : h.lt.getD i Lt.none = h.lt[i] := by simp [List.getD, hi]
  rw [this]; exact ok.lat _ (List.getElem_mem hi)
 ·have : h.lt.getD i Lt.none = Lt.none := by simp [List.getD, List.getElem?_eq_none hi]
  rw [this]; exact okL.none
theorem ready_T {t b : Int} {i : Nat} (hr : h.ready t b = some i) : Ow.isT t = true ∧ h.ca.ready b = some i := by
 unfold Ha.ready at hr
 split at hr
 ·rename_i ht; exact ⟨ht, hr⟩
 ·cases hr
theorem okH.take (ok : okH B h) (t b : Int) (w : Bool) : okH B (h.take t b w).1 := by
 unfold Ha.take
 split
 ·rename_i i hr
  exact okH.lt_ ok ((lat_ok ok i).take w (isT_iff.1 (ready_T hr).1).2)
 ·exact ok
theorem okH.leave (ok : okH B h) (t b : Int) : okH B (h.leave t b).1 := by
 unfold Ha.leave
 split
 ·rename_i i hr
  split
  ·exact okH.ca_ (okH.lt_ ok ((lat_ok ok i).drop t)) (okC.unpin ok.ca b) (len_unpin _ _)
  ·exact ok
 ·exact ok
theorem okH.set_ (ok : okH B h) (t b : Int) {d : Nd} (hd : okN d) : okH B (h.set_ t b d).1 := by
 unfold Ha.set_
 split
 ·split
  ·rename_i hc
   simp only [Bool.and_eq_true] at hc
   have hf : nodFits d := by
    by_cases hf : nodFits d
    ·exact hf
    ·rw [tt_false hf] at hc; cases hc.2
   exact okH.ca_ ok (okC.set_ ok.ca b hd hf) (len_set _ _ _)
  ·exact ok
 ·exact ok
theorem okH.evict (ok : okH B h) : okH B h.evict.1 := by
 unfold Ha.evict
 have h1 := okC.evict ok.ca
 have h2 := len_evict h.ca
 split
 ·rename_i c f he
  rw [he] at h1 h2
  have hf := evict_ok h.ca ok.ca he
  split
  ·rename_i hd
   exact okH.setB (okH.ca_ ok h1 h2) f.blk ⟨hf.1, hf.2 hd⟩
  ·exact okH.ca_ ok h1 h2
 ·rename_i c he
  rw [he] at h1 h2
  exact okH.ca_ ok h1 h2
theorem okH.new {b f : Nat} (hb1 : 1 ≤ b) (hb2 : b ≤ 256) (hf1 : 1 ≤ f) (hf2 : f ≤ 64) : okH 0 (Ha.new b f) := by
 have mem : ∀ {g : Fm}, g ∈ (Ca.new f).fs → g = Fm.free := fun h => List.eq_of_mem_replicate h
 refine { ca := ⟨by simpa [Ha.new, Ca.new] using hf2, by simpa [Ha.new, Ca.new] using hf1, fun g hg => ?_, fun g hg => ?_, fun g hg => ?_, fun b j k => ?_, fun g hg => ?_, fun g hg => ?_, fun g hg => ?_, trivial, by simp [Ha.new, Ca.new], trivial, by simp [Ha.new, Ca.new], by simp only [Ha.new, Ca.new, List.length_replicate]; omega, fun g hg => ?_⟩, lts := by simp [Ha.new, Ca.new], lat := fun l hl => by rw [List.eq_of_mem_replicate hl]; exact okL.none, few := by simp [Ha.new]; omega, one := by simp [Ha.new], nd := fun d hd => ?_ }
 ·rw [mem hg]; exact none_ok
 ·rw [mem hg]; simp [Fm.free]
 ·rw [mem hg]; simp [Fm.free]
 ·rintro ⟨g, e, hg⟩
  rw [mem (List.mem_of_getElem? e)] at hg
  simp [Fm.free, Fm.has] at hg
 ·rw [mem hg]; simp [Fm.free]
 ·rw [mem hg]; simp [Fm.free]
 ·rw [mem hg]; simp [Fm.free]
 ·rw [mem hg]; simp [Fm.free]
 ·simp only [Ha.new, List.mem_cons] at hd
  rcases hd with hd | hd
  ·cases hd; exact leaf0_fit
  ·cases List.eq_of_mem_replicate hd
end
end Go.Proofs.YtdjfdlpfchokcaaGreat
namespace Go.Mo
open Go Go.Eng
variable [Toks]
theorem cmpB_eq : ∀ {a b : Bs}, cmpB a b = 0 → a = b
 | [], [], _ => rfl
 | [], _ :: _, h => by simp [cmpB, Lib.compareBytes] at h
 | _ :: _, [], h => by simp [cmpB, Lib.compareBytes] at h
 | x :: a, y :: b, h => by
  have h : Lib.compareBytes (x :: a) (y :: b) = 0 := h
  rw [Lib.compareBytes] at h
  split at h
  ·cases h
  ·split at h
   ·cases h
   ·rename_i h1 h2
    have : x = y := UInt8.toNat_inj.1 (by rw [UInt8.lt_iff_toNat_lt] at h1 h2; omega)
    rw [this, cmpB_eq h]
theorem cmpB_lt_cons {x y : UInt8} {a b : Bs} : cmpB (x :: a) (y :: b) < 0 ↔ x.toNat < y.toNat ∨ x = y ∧ cmpB a b < 0 := by
 show Lib.compareBytes (x :: a) (y :: b) < 0 ↔ _
 rw [Lib.compareBytes]
 simp only [UInt8.lt_iff_toNat_lt]
 split
 ·rename_i h; exact ⟨fun _ => .inl h, fun _ => by omega⟩
 ·split
  ·rename_i h1 h2
   refine ⟨fun h => by omega, fun h => ?_⟩
   rcases h with h | ⟨rfl, _⟩ <;> omega
  ·rename_i h1 h2
   have : x = y := UInt8.toNat_inj.1 (by omega)
   exact ⟨fun h => .inr ⟨this, h⟩, fun h => by rcases h with h | h; omega; exact h.2⟩
theorem cmpB_trans : ∀ {a b c : Bs}, cmpB a b < 0 → cmpB b c < 0 → cmpB a c < 0
 | [], [], _, h, _ => by simp [cmpB, Lib.compareBytes] at h
 | _ :: _, [], _, h, _ => by simp [cmpB, Lib.compareBytes] at h
 | _, _ :: _, [], _, h => by simp [cmpB, Lib.compareBytes] at h
 | [], _ :: _, _ :: _, _, _ => by simp [cmpB, Lib.compareBytes]
 | x :: a, y :: b, z :: c, h, k => by
  rw [cmpB_lt_cons] at *
  rcases h with h | ⟨rfl, h⟩
  ·rcases k with k | ⟨rfl, k⟩
   ·exact .inl (by omega)
   ·exact .inl h
  ·rcases k with k | ⟨rfl, k⟩
   ·exact .inl k
   ·exact .inr ⟨rfl, cmpB_trans h k⟩
theorem cmpB_gt : ∀ {a b : Bs}, 0 < cmpB a b → cmpB b a < 0
 | [], [], h => by simp [cmpB, Lib.compareBytes] at h
 | _ :: _, [], _ => by simp [cmpB, Lib.compareBytes]
 | [], _ :: _, h => by simp [cmpB, Lib.compareBytes] at h
 | x :: a, y :: b, h => by
  rw [cmpB_lt_cons]
  have h : 0 < Lib.compareBytes (x :: a) (y :: b) := h
  rw [Lib.compareBytes] at h
  simp only [UInt8.lt_iff_toNat_lt] at h
  split at h
  ·cases h
  ·split at h
   ·rename_i h1 h2; exact .inl h2
   ·rename_i h1 h2
    exact .inr ⟨UInt8.toNat_inj.1 (by omega), cmpB_gt h⟩
def putGo (k v : Bs) : Bool → List (Bs × Bs) → List (Bs × Bs)
 | p, [] => if p then [] else [(k, v)]
 | p, e :: l => (if 0 ≤ cmpB e.1 k ∧ p = false then [(k, v)] else []) ++ ((if cmpB e.1 k = 0 then [] else [e]) ++ putGo k v (p || decide (0 ≤ cmpB e.1 k)) l)
def rises (l : List (Bs × Bs)) : Prop := l.Pairwise fun a b => cmpB a.1 b.1 < 0
section
variable {k v : Bs} {l : List (Bs × Bs)} {p : Bool} {x : Bs × Bs}
theorem putGo_true : ∀ l : List (Bs × Bs), putGo k v true l = l.filter fun e => decide (cmpB e.1 k ≠ 0)
 | [] => rfl
 | e :: l => by
  rw [putGo, Bool.true_or, putGo_true l]
  by_cases h : cmpB e.1 k = 0 <;> simp [h]
theorem putGo_mem : ∀ (l : List (Bs × Bs)) (p : Bool), x ∈ putGo k v p l → x = (k, v) ∨ x ∈ l
 | [], p, h => by
  rw [putGo] at h
  split at h <;> simp at h
  exact .inl h
 | e :: l, p, h => by
  rw [putGo] at h
  simp only [List.mem_append] at h
  rcases h with h | h | h
  ·split at h <;> simp at h
   exact .inl h
  ·split at h <;> simp at h
   exact .inr (by simp [h])
  ·rcases putGo_mem l _ h with h | h
   ·exact .inl h
   ·exact .inr (by simp [h])
theorem putGo_len : ∀ (l : List (Bs × Bs)) (p : Bool), (putGo k v p l).length ≤ l.length + if p then 0 else 1
 | [], p => by cases p <;> simp [putGo]
 | e :: l, p => by
  rw [putGo]
  have := putGo_len l (p || decide (0 ≤ cmpB e.1 k))
  cases p <;> by_cases h : 0 ≤ cmpB e.1 k <;> by_cases h2 : cmpB e.1 k = 0 <;> simp [h, h2] at this ⊢ <;> omega
theorem putGo_rises : ∀ l : List (Bs × Bs), rises l → rises (putGo k v false l)
 | [], _ => by simp [putGo, rises]
 | e :: l, h => by
  obtain ⟨h1, h2⟩ := List.pairwise_cons.1 h
  rw [putGo]
  by_cases hc : 0 ≤ cmpB e.1 k
  ·rw [if_pos ⟨hc, rfl⟩, decide_eq_true hc, Bool.false_or, putGo_true]
   have h3 := h2.filter fun e => decide (cmpB e.1 k ≠ 0)
   by_cases h0 : cmpB e.1 k = 0
   ·rw [if_pos h0, List.nil_append, List.cons_append, List.nil_append]
    refine List.pairwise_cons.2 ⟨fun y hy => ?_, h3⟩
    rw [← cmpB_eq h0]
    exact h1 y (List.mem_filter.1 hy).1
   ·rw [if_neg h0, List.cons_append, List.nil_append, List.cons_append, List.nil_append]
    have hk : cmpB k e.1 < 0 := cmpB_gt (by omega)
    refine List.pairwise_cons.2 ⟨fun y hy => ?_, List.pairwise_cons.2 ⟨fun y hy => h1 y (List.mem_filter.1 hy).1, h3⟩⟩
    rcases List.mem_cons.1 hy with rfl | hy
    ·exact hk
    ·exact cmpB_trans hk (h1 y (List.mem_filter.1 hy).1)
  ·rw [if_neg (fun hh => hc hh.1), if_neg (by omega), decide_eq_false hc, Bool.false_or, List.nil_append, List.cons_append, List.nil_append]
   refine List.pairwise_cons.2 ⟨fun y hy => ?_, putGo_rises l h2⟩
   rcases putGo_mem l _ hy with rfl | hy
   ·show cmpB e.1 k < 0; omega
   ·exact h1 y hy
theorem rises_ok (h : rises l) : entsOk l := by
 intro i a b hi ha hb
 simp only [List.getElem?_map, Option.map_eq_some_iff] at ha hb
 obtain ⟨x, hx, rfl⟩ := ha
 obtain ⟨y, hy, rfl⟩ := hb
 obtain ⟨h1, rfl⟩ := List.getElem?_eq_some_iff.1 hx
 obtain ⟨h2, rfl⟩ := List.getElem?_eq_some_iff.1 hy
 exact List.pairwise_iff_getElem.1 h (i - 1) i h1 h2 (by omega)
end
end Go.Mo
namespace Go.Proofs.YtdjfdlpfchokcaaGreat
open Go Go.Eng Go.Ow
open Go.Mo hiding SlO SlR Sees Upd isT
variable [Toks]
set_option maxRecDepth 20000
attribute [local irreducible] hvc hops hop hplan hdrawP hval1 hopD HLoop
theorem rfind (t : Bool) (l : List (Bs × Bs)) (k : Bs) (ok : ∀ e ∈ l, okK e.1 ∧ okV e.2) : ∃ w b, okV w ∧ Pure Tryz.prog 109 [.imm t (l.map entL), .agg (keyL k)] (.tup [.agg (valL w), .bool b]) := by
 refine ⟨((l.find? fun e => decide (e.1 = k)).map Prod.snd).getD [], (l.find? fun e => decide (e.1 = k)).isSome, ?_, Pure.of_ext ?_ fun PS => ?_⟩
 ·cases hf : l.find? fun e => decide (e.1 = k) with
  | none => simp [okV]
  | some e => exact (ok e (List.mem_of_find?_eq_some hf)).2
 ·exact tup2_scoped (scoped_agg.2 (sc_val _)) (.bool _)
 refine enter_109 (by unfold Tryz.f109; exact rfl) ?_
 simp only [go_sem, seval, -List.reduceReplicate]
 refine pend_intro (loop_rule (α := Nat) [false, false, false, false, false, true, false, true, true, true, true, true, true, true, true, true, true, true, true, true, true, true, true, true, true] (fun i => [(6, .int .i64 i)]) (fun i => l.length - i) (fun i PS' => (i ≤ l.length ∧ ∀ e ∈ l.take i, e.1 ≠ k) ∧ PS' = PS ++ [.arr 0 9 [keyL k] false, .arr 0 17 [.int .i64 0 :: List.replicate 16 (.int .u8 0)] false]) 0 ⟨⟨Nat.zero_le _, by simp⟩, rfl⟩ ?_ ?_)
 ·simp only [go_sem, seval, -List.reduceReplicate, Int.natCast_zero]
 ·rintro i _ ⟨⟨hi, hu⟩, rfl⟩
  by_cases hlt : i < l.length
  ·have ha1 : l[i]? = some l[i] := by simp [hlt]
   have oi := ok _ (List.getElem_mem hlt)
   simp only [go_sem, seval, -List.reduceReplicate, hlt, List.getElem?_map, Option.map_some, ha1, List.length_map, entL, hcmp_key oi.1]
   intro hm
   have hmx : maxLen = 9223372036854775807 := rfl
   split
   ·rename_i he
    have hf : l.find? (fun e => decide (e.1 = k)) = some l[i] := by
     have h1 : (l.take i).find? (fun e => decide (e.1 = k)) = none := List.find?_eq_none.2 fun e he2 => by simpa using hu e he2
     have h2 : l.find? (fun e => decide (e.1 = k)) = (l.take i ++ l.drop i).find? (fun e => decide (e.1 = k)) := by rw [List.take_append_drop]
     rw [h2, List.find?_append, h1, List.drop_eq_getElem_cons hlt, Option.none_or, List.find?_cons]
     simp only [decide_eq_true he]
    rw [hf]
    refine ⟨by omega, rfl, Ext.app _ _⟩
   ·rename_i hne
    refine ⟨⟨by omega, by omega⟩, i + 1, by omega, ⟨by omega, fun e he => ?_⟩, rfl⟩
    rw [List.take_succ_eq_append_getElem hlt] at he
    rcases List.mem_append.1 he with he | he
    ·exact hu e he
    ·simp at he; subst he; exact hne
  ·simp only [go_sem, seval, -List.reduceReplicate, hlt, List.length_map]
   intro hm
   have hf : l.find? (fun e => decide (e.1 = k)) = none := List.find?_eq_none.2 fun e he => by
    have := hu e (by rw [List.take_of_length_le (by omega)]; exact he)
    simpa using this
   rw [hf]
   exact ⟨(ones_iff _).2 fun y hy => by rw [List.eq_of_mem_replicate hy]; rfl, by decide, rfl, Ext.app _ _⟩
theorem rapply_put (t : Bool) (w : Bs) (b : Bool) (m : Ms) (hm : m.kind = 1) : Pure Tryz.prog 110 [.agg (valL w), .bool b, .agg (msgL m)] (.tup [.agg (valL m.val), .bool true]) := by
 refine Pure.of_ext (tup2_scoped (scoped_agg.2 (sc_val _)) (.bool _)) fun PS => ?_
 refine enter_110 (by unfold Tryz.f110; exact rfl) ?_
 simp only [go_sem, seval, -List.reduceReplicate, hm, msgL]
 exact ⟨((ones_iff _).2 fun y hy => msgL_one m y (by simp only [msgL, List.mem_cons]; exact .inr (.inr hy))), by decide, Ext.app _ _⟩
theorem hent (k v : Bs) : hsplice 9 (valL v) (keyL k ++ List.drop 8 (List.replicate 8 (HV.int IntKind.u8 0) ++ [HV.int IntKind.i64 0] ++ List.replicate 16 (HV.int IntKind.u8 0))) = entL (k, v) := by
 have e : 9 + (valL v).length = (keyL k).length + 17 := by rw [valL_len, keyL_len]
 unfold hsplice
 rw [List.take_left' (keyL_len k), e, List.drop_append]
 simp [entL]
theorem rput (t : Bool) (l : List (Bs × Bs)) (m : Ms) (hm : m.kind = 1) (okm : okM m) (ok : ∀ e ∈ l, okK e.1 ∧ okV e.2) (hl : l.length ≤ 1000) : Pure Tryz.prog 67 [.imm t (l.map entL), .agg (msgL m)] (.imm (decide ((putGo m.key m.val false l).map entL = [])) ((putGo m.key m.val false l).map entL)) := by
 intro PS
 refine Bld.done (s := 26) (by intro x hx y hy; simp at hx; obtain ⟨a, b, _, rfl⟩ := hx; exact sc_ent _ y hy) ?_
 obtain ⟨w, b, hw, hf⟩ := rfind t l m.key ok
 refine enter_67 (by unfold Tryz.f67; exact rfl) ?_
 simp only [go_sem, seval, -List.reduceReplicate]
 refine pend_intro (hf.call ?_)
 simp only [go_sem, seval, -List.reduceReplicate]
 refine ⟨by decide, pend_intro ((rapply_put t w b m hm).call ?_)⟩
 simp only [go_sem, seval, -List.reduceReplicate]
 have hmx : maxLen = 9223372036854775807 := rfl
 have hv : valL m.val ++ List.drop 16 (List.replicate 16 (HV.int IntKind.u8 0)) = valL m.val := by simp
 rw [hv]
 have hx0 : Ext [] PS (PS ++ [Piece.arr 0 29 [msgL m] false, Piece.arr 0 17 [valL w ++ List.drop 16 (List.replicate 16 (HV.int IntKind.u8 0))] false, Piece.arr 0 17 [valL m.val] false]) := Ext.app _ _
 have g0 : getP (PS ++ [Piece.arr 0 29 [msgL m] false, Piece.arr 0 17 [valL w ++ List.drop 16 (List.replicate 16 (HV.int IntKind.u8 0))] false, Piece.arr 0 17 [valL m.val] false]) PS.length = .arr 0 29 [msgL m] false := by simp [getP]
 have g2 : getP (PS ++ [Piece.arr 0 29 [msgL m] false, Piece.arr 0 17 [valL w ++ List.drop 16 (List.replicate 16 (HV.int IntKind.u8 0))] false, Piece.arr 0 17 [valL m.val] false]) (PS.length + 2) = .arr 0 17 [valL m.val] false := by simp [getP]
 have hlen : (PS ++ [Piece.arr 0 29 [msgL m] false, Piece.arr 0 17 [valL w ++ List.drop 16 (List.replicate 16 (HV.int IntKind.u8 0))] false, Piece.arr 0 17 [valL m.val] false]).length = PS.length + 3 := by simp
 generalize PS ++ [Piece.arr 0 29 [msgL m] false, Piece.arr 0 17 [valL w ++ List.drop 16 (List.replicate 16 (HV.int IntKind.u8 0))] false, Piece.arr 0 17 [valL m.val] false] = PA at hx0 g0 g2 hlen ⊢
 refine pend_intro (loop_rule (α := Nat × Bool × HV) [false, false, false, false, false, false, false, false, false, false, false, false, true, false, false, false, false, false, false, false, false, false, false, false, false, false, false, true, true, true, true, true, true, true, true, true, true, true, true, true, true, true, true, true, true, true, true, true, true, true, true, true, true, true, true, true, true, true, true, true, true, true, true, true] (fun b => [(11, .int .i64 b.1), (10, .bool b.2.1), (9, b.2.2)]) (fun b => l.length - b.1) (fun b PS' => b.1 ≤ l.length ∧ ∃ R, R.length ≤ 2 * b.1 ∧ R ++ putGo m.key m.val b.2.1 (l.drop b.1) = putGo m.key m.val false l ∧ Bld PA PS' 26 b.2.2 (R.map entL)) (0, false, .imm true []) ⟨Nat.zero_le _, [], by simp, rfl, Bld.nil 26 (Ext.refl _)⟩ ?_ ?_)
 ·simp only [go_sem, seval, -List.reduceReplicate, Int.natCast_zero]
 ·rintro ⟨i, p, y⟩ PS1 ⟨hi, R, hR, hE, hb⟩
  simp only at hi hR hE hb
  have h0 := (hb.ext.2 PS.length (by omega) (by simp)).trans g0
  have h2 := (hb.ext.2 (PS.length + 2) (by omega) (by simp)).trans g2
  by_cases hlt : i < l.length
  ·have ha1 : l[i]? = some l[i] := by simp [hlt]
   have oi := ok _ (List.getElem_mem hlt)
   have hroomR : R.length ≤ 2 * l.length := by omega
   have hdr : l.drop i = l[i] :: l.drop (i + 1) := List.drop_eq_getElem_cons hlt
   rw [hdr, putGo] at hE
   simp only [go_sem, seval, -List.reduceReplicate, hlt, List.getElem?_map, Option.map_some, ha1, List.length_map, h0]
   intro _
   refine pend_intro ((rkey_cmp _ _ oi.1 okm.key).to ?_)
   by_cases hc : 0 ≤ cmpB l[i].1 m.key
   ·rw [decide_eq_true hc, Bool.or_true] at hE
    cases p with
    | false =>
     rw [if_pos ⟨hc, rfl⟩] at hE
     simp only [go_sem, seval, -List.reduceReplicate, hc, h0, h2, hent]
     refine ⟨by simp, by simp [entL_len], hb.app (by simp [entL_len]) (by simp) (by simp [hroom]; omega) fun v PS2 hb2 => ?_⟩
     have hb2 : Bld PA PS2 26 v ((R ++ [(m.key, m.val)]).map entL) := by simpa using hb2
     by_cases h00 : cmpB l[i].1 m.key = 0
     ·rw [if_pos h00] at hE
      simp only [go_sem, seval, -List.reduceReplicate, h00]
      refine ⟨⟨by omega, by omega⟩, (i + 1, true, v), by simp only; omega, ⟨by simp only; omega, R ++ [(m.key, m.val)], by simp; omega, ?_, hb2⟩, .inl rfl, rfl, rfl⟩
      simpa using hE
     ·rw [if_neg h00] at hE
      simp only [go_sem, seval, -List.reduceReplicate, h00, hlt, List.getElem?_map, Option.map_some, ha1, List.length_map, entL_len]
      refine ⟨?_, hb2.app (by simp [entL_len]) (by simp) (by simp [hroom]; omega) fun v PS3 hb3 => ?_⟩
      ·simp [entL_len]
      refine ⟨⟨by omega, by omega⟩, (i + 1, true, v), by simp only; omega, ⟨by simp only; omega, R ++ [(m.key, m.val)] ++ [l[i]], by simp; omega, ?_, by simpa using hb3⟩, .inl rfl, rfl, rfl⟩
      simpa using hE
    | true =>
     rw [if_neg (by simp)] at hE
     by_cases h00 : cmpB l[i].1 m.key = 0
     ·rw [if_pos h00] at hE
      simp only [go_sem, seval, -List.reduceReplicate, hc, h00]
      refine ⟨⟨by omega, by omega⟩, (i + 1, true, y), by simp only; omega, ⟨by simp only; omega, R, by omega, ?_, hb⟩, .inl rfl, rfl, rfl⟩
      simpa using hE
     ·rw [if_neg h00] at hE
      simp only [go_sem, seval, -List.reduceReplicate, hc, h00, hlt, List.getElem?_map, Option.map_some, ha1, List.length_map, entL_len]
      refine ⟨?_, hb.app (by simp [entL_len]) (by simp) (by simp [hroom]; omega) fun v PS3 hb3 => ?_⟩
      ·simp [entL_len]
      refine ⟨⟨by omega, by omega⟩, (i + 1, true, v), by simp only; omega, ⟨by simp only; omega, R ++ [l[i]], by simp; omega, ?_, by simpa using hb3⟩, .inl rfl, rfl, rfl⟩
      simpa using hE
   ·have h00 : ¬ cmpB l[i].1 m.key = 0 := by omega
    rw [if_neg (fun hh => hc hh.1), if_neg h00, decide_eq_false hc, Bool.or_false] at hE
    simp only [go_sem, seval, -List.reduceReplicate, hc, h00, hlt, List.getElem?_map, Option.map_some, ha1, List.length_map, entL_len]
    refine ⟨?_, hb.app (by simp [entL_len]) (by simp) (by simp [hroom]; omega) fun v PS3 hb3 => ?_⟩
    ·simp [entL_len]
    refine ⟨⟨by omega, by omega⟩, (i + 1, p, v), by simp only; omega, ⟨by simp only; omega, R ++ [l[i]], by simp; omega, ?_, by simpa using hb3⟩, .inl rfl, rfl, rfl⟩
    simpa using hE
  ·rw [List.drop_of_length_le (by omega)] at hE
   have hw : ∀ {v : HV} {PS3 : PL} {R : List (List HV)}, Bld PA PS3 26 v R → Bld PS PS3 26 v R := fun h => by
    refine ⟨?_, h.2.1, hx0.trans h.2.2⟩
    rcases h.1 with h | ⟨h1, p, ver, h2, h3, h4⟩
    ·exact .inl h
    ·exact .inr ⟨h1, p, ver, h2, Nat.le_trans hx0.1 h3, h4⟩
   cases p with
   | false =>
    simp only [go_sem, seval, -List.reduceReplicate, hlt, List.length_map, h0, h2, hent]
    intro _
    refine ⟨by simp, by simp [entL_len], hb.app (by simp [entL_len]) (by simp) (by simp [hroom]; omega) fun v PS2 hb2 => ?_⟩
    rw [← hE]
    exact hw (by simpa [putGo] using hb2)
   | true =>
    simp only [go_sem, seval, -List.reduceReplicate, hlt, List.length_map]
    intro _
    rw [← hE]
    exact hw (by simpa [putGo] using hb)
noncomputable def gk (v : Int) : Bs := Classical.choose (gen_key v)
theorem gk_ok (v : Int) : okK (gk v) := (Classical.choose_spec (gen_key v)).1
theorem gk_gen (v : Int) : Pure Tryz.prog 68 [.int .i64 v] (.agg (keyL (gk v))) := (Classical.choose_spec (gen_key v)).2
noncomputable def gv (v : Int) : Bs := Classical.choose (gen_value v)
theorem gv_ok (v : Int) : okV (gv v) := (Classical.choose_spec (gen_value v)).1
theorem gv_gen (v : Int) : Pure Tryz.prog 69 [.int .i64 v] (.agg (valL (gv v))) := (Classical.choose_spec (gen_value v)).2
noncomputable def entStep (L : List (Bs × Bs)) (x : Int) : List (Bs × Bs) :=
 let more := putGo (gk (x % 1099511627776)) (gv ((x % 1099511627776) / 16)) false L
 if entsBytes more ≤ 248 then more else L
noncomputable def entsOf (l : List Int) : List (Bs × Bs) := l.foldl entStep []
structure EntsOk (n : Nat) (L : List (Bs × Bs)) : Prop where
 ok : ∀ e ∈ L, okK e.1 ∧ okV e.2
 up : rises L
 by_ : entsBytes L ≤ 248
 few : L.length ≤ n
theorem entStep_ok {n : Nat} {L : List (Bs × Bs)} (h : EntsOk n L) (x : Int) : EntsOk (n + 1) (entStep L x) := by
 unfold entStep
 simp only
 split
 ·rename_i hb
  refine ⟨fun e he => ?_, putGo_rises _ h.up, hb, ?_⟩
  ·rcases putGo_mem _ _ he with rfl | he
   ·exact ⟨gk_ok _, gv_ok _⟩
   ·exact h.ok e he
  ·have := putGo_len (k := gk (x % 1099511627776)) (v := gv ((x % 1099511627776) / 16)) L false
   have := h.few
   simp at *; omega
 ·exact ⟨h.ok, h.up, h.by_, by have := h.few; omega⟩
theorem entsOf_ok (l : List Int) : EntsOk l.length (entsOf l) := by
 have : ∀ (l : List Int) (n : Nat) (L : List (Bs × Bs)), EntsOk n L → EntsOk (n + l.length) (l.foldl entStep L) := by
  intro l
  induction l with
  | nil => intro n L h; exact h
  | cons x l ih => intro n L h; have := ih _ _ (entStep_ok h x); rw [List.foldl_cons, List.length_cons]; rwa [Nat.add_assoc, Nat.add_comm 1] at this
 have := this l 0 [] ⟨by simp, List.Pairwise.nil, by simp [entsBytes], by simp⟩
 rwa [Nat.zero_add] at this
theorem gen_ents (t : Bool) (l : List Int) (hl : l.length ≤ 80) : Pure Tryz.prog 28 [.imm t (l.map kidL), .int .i64 248] (.imm (decide ((entsOf l).map entL = [])) ((entsOf l).map entL)) := by
 refine Pure.of_ext (sc_rows _ entL _ sc_ent) fun PS => ?_
 have hmx : maxLen = 9223372036854775807 := rfl
 refine enter_28 (by unfold Tryz.f28; exact rfl) ?_
 simp only [go_sem, seval, -List.reduceReplicate]
 refine pend_intro (loop_rule (α := Nat) [false, false, false, false, false, false, false, true, true, true, true, true, true, true, true, true, true, true, true, true, true, true, true, true, true, true, true, true, true, true, true, true, true, true, true, true, true] (fun i => [(6, .int .i64 i), (5, .imm (decide ((entsOf (l.take i)).map entL = [])) ((entsOf (l.take i)).map entL))]) (fun i => l.length - i) (fun i PS' => i ≤ l.length ∧ Ext [] PS PS') 0 ⟨Nat.zero_le _, Ext.refl _⟩ ?_ ?_)
 ·simp only [go_sem, seval, -List.reduceReplicate, Int.natCast_zero]
  rfl
 ·rintro i PS1 ⟨hi, hx⟩
  by_cases hlt : i < l.length
  ·have ha1 : l[i]? = some l[i] := by simp [hlt]
   have hq : (i : Int) < 80 := by omega
   have ok := entsOf_ok (l.take i)
   have hst : entsOf (l.take (i + 1)) = entStep (entsOf (l.take i)) l[i] := by
    unfold entsOf
    rw [List.take_succ_eq_append_getElem hlt, List.foldl_append]; rfl
   have hp := place_ l[i] 1099511627776 (by omega) (by omega)
   have hk0 : 0 ≤ l[i] % 1099511627776 := Int.emod_nonneg _ (by omega)
   have hd : (l[i] % 1099511627776).tdiv 16 = l[i] % 1099511627776 / 16 := Int.tdiv_eq_ediv_of_nonneg hk0
   have hfew : (l.take i).length ≤ 80 := by rw [List.length_take]; omega
   have hkb : l[i] % 1099511627776 < 1099511627776 := Int.emod_lt_of_pos _ (by omega)
   simp only [go_sem, seval, -List.reduceReplicate, hlt, List.getElem?_map, Option.map_some, ha1, List.length_map, hq, kidL]
   intro _
   refine pend_intro (hp.call ?_)
   simp only [go_sem, seval, -List.reduceReplicate]
   refine pend_intro ((gk_gen _).call ?_)
   simp only [go_sem, seval, -List.reduceReplicate, hd]
   refine ⟨⟨by omega, by omega⟩, pend_intro ((gv_gen _).call ?_)⟩
   simp only [go_sem, seval, -List.reduceReplicate]
   have hmsg : HV.int .i64 1 :: HV.int .u64 0 :: hsplice 9 (valL (gv (l[i] % 1099511627776 / 16))) (keyL (gk (l[i] % 1099511627776)) ++ List.drop 8 (List.replicate 8 (HV.int IntKind.u8 0) ++ [HV.int IntKind.i64 0] ++ List.replicate 16 (HV.int IntKind.u8 0) ++ [HV.int IntKind.u64 0])) = msgL ⟨1, 0, gk (l[i] % 1099511627776), gv (l[i] % 1099511627776 / 16), 0⟩ := by
    have hz1 : List.drop 8 (List.replicate 8 (HV.int .u8 0) ++ [HV.int .i64 0] ++ List.replicate 16 (HV.int .u8 0) ++ [HV.int .u64 0]) = valL [] ++ [HV.int .u64 0] := rfl
    rw [hz1, hsplice, List.take_left' (keyL_len _), valL_len, ← List.drop_drop, List.drop_left' (keyL_len _), List.drop_left' (valL_len _)]
    rfl
   rw [hmsg]
   have hput := rput (decide (List.map entL (entsOf (List.take i l)) = [])) (entsOf (l.take i)) ⟨1, 0, gk (l[i] % 1099511627776), gv (l[i] % 1099511627776 / 16), 0⟩ rfl ⟨by simp, by simp, gk_ok _, gv_ok _, by simp⟩ ok.ok (by have := ok.few; omega)
   refine ⟨by simp, pend_intro (hput.call ?_)⟩
   simp only
   have hmo : ∀ e ∈ putGo (gk (l[i] % 1099511627776)) (gv (l[i] % 1099511627776 / 16)) false (entsOf (l.take i)), okK e.1 ∧ okV e.2 := fun e he => by
    rcases putGo_mem _ _ he with rfl | he
    ·exact ⟨gk_ok _, gv_ok _⟩
    ·exact ok.ok e he
   have hml := putGo_len (k := gk (l[i] % 1099511627776)) (v := gv (l[i] % 1099511627776 / 16)) (entsOf (l.take i)) false
   unfold entStep at hst
   simp only at hst
   generalize putGo (gk (l[i] % 1099511627776)) (gv (l[i] % 1099511627776 / 16)) false (entsOf (l.take i)) = more at hst hmo hml ⊢
   simp only [Bool.false_eq_true, if_false] at hml
   simp only [go_sem, seval, -List.reduceReplicate]
   have hbt := rents_bytes (decide (List.map entL more = [])) more (by have := ok.few; omega) hmo
   change Pure _ _ _ (.int .i64 (entsBytes more : Nat)) at hbt
   refine pend_intro (hbt.call ?_)
   by_cases hb : entsBytes more ≤ 248
   ·rw [if_pos hb] at hst
    have hb' : ((entsBytes more : Nat) : Int) ≤ 248 := by omega
    simp only [go_sem, seval, -List.reduceReplicate, hb']
    exact ⟨⟨by omega, by omega⟩, i + 1, by omega, ⟨by omega, hx⟩, by rw [hst], rfl⟩
   ·rw [if_neg hb] at hst
    have hb' : ¬ ((entsBytes more : Nat) : Int) ≤ 248 := by omega
    simp only [go_sem, seval, -List.reduceReplicate, hb']
    exact ⟨⟨by omega, by omega⟩, i + 1, by omega, ⟨by omega, hx⟩, by rw [hst], rfl⟩
  ·simp only [go_sem, seval, -List.reduceReplicate, hlt, List.length_map]
   intro _
   rw [List.take_of_length_le (by omega)]
   exact ⟨rfl, hx⟩
noncomputable def leafOf (l : List Int) : Nd := ⟨true, entsOf l, [], [], []⟩
theorem leafOf_ok (l : List Int) (hl : l.length ≤ 80) : okN (leafOf l) ∧ nodFits (leafOf l) := by
 have h := entsOf_ok l
 refine ⟨⟨h.ok, by simp [leafOf], by simp [leafOf], by have := h.few; simp [leafOf]; omega⟩, ?_, ?_⟩
 ·unfold nodOk leafOf
  rw [if_pos rfl]
  exact ⟨rises_ok h.up, rfl, rfl, rfl⟩
 ·have := h.by_
  simpa [nodBytes, leafOf] using this
theorem gen_leaf (t : Bool) (l : List Int) (hl : l.length ≤ 80) : ∃ t', Pure Tryz.prog 8 [.imm t (l.map kidL)] (.agg (nodL t' (leafOf l))) := by
 refine ⟨⟨decide ((entsOf l).map entL = []), true, true, true⟩, Pure.of_ext (sc_nod _ _) fun PS => ?_⟩
 refine enter_8 (by unfold Tryz.f8; exact rfl) ?_
 simp only [go_sem, seval]
 refine pend_intro ((gen_ents t l hl).call ?_)
 simp only [go_sem, seval]
 exact ⟨rfl, Ext.app _ _⟩
end Go.Proofs.YtdjfdlpfchokcaaGreat
