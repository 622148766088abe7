import Derived.Test.YtpegkffdhpdciaaStG
namespace Go.Proofs.Ytpegkffdhpdciaa
open Go Go.Eng
set_option maxRecDepth 20000
set_option linter.unusedSimpArgs false
attribute [local irreducible] hvc hops hop hplan hval1 hopD HLoop
/-! The store as one thing, in the program and in the document. -/
def zeros : List UInt8 := List.replicate 256 0
def Shelf.alloc (m : Shelf) : Nat × Int × Shelf :=
  match m.findIdx? Option.isNone with
  | some k => (k, 0, m.set k (some zeros))
  | none => (0, 3, m)
def Shelf.get (m : Shelf) (id : Int) : Option (List UInt8) := if 0 ≤ id then m.getD id.toNat none else none
def Shelf.free (m : Shelf) (id : Int) : Int × Shelf := match m.get id with | some _ => (0, m.set id.toNat none) | none => (6, m)
def Shelf.read (m : Shelf) (id : Int) : List UInt8 × Int := match m.get id with | some b => (b, 0) | none => ([], 6)
def Shelf.write (m : Shelf) (id : Int) (l : List UInt8) : Int × Shelf := match m.get id with | some _ => if l.length = 256 then (0, m.set id.toNat (some l)) else (1, m) | none => (6, m)
def Shelf.used (m : Shelf) : List Nat := usedOf (m.map Option.isSome) m.length
def Shelf.left (m : Shelf) : Int := m.length - m.used.length
def StoreP (PS : PL) (x : HV) (own : List Nat) (m : Shelf) : Prop :=
  ∃ p q u vp vq vu k bs, x = .ptr p vp 0 0 ∧ own = [p, q, u] ∧ StoreAt PS p q u vp vq vu k (m.map Option.isSome) bs ∧ ∀ (i : Nat) (b : List UInt8), m[i]? = some (some b) → bs[i]? = some b
def StoreR (PS : PL) (x : HV) (own : List Nat) (m : Shelf) : Prop :=
  ∃ p u q vp vu vq E, x = .ptr p vp 0 0 ∧ own = [p, u, q] ∧ StoreRAt PS p u q vp vu vq m E
theorem StoreP.lt {PS : PL} {x : HV} {own : List Nat} {m : Shelf} (h : StoreP PS x own m) : ∀ n ∈ own, n < PS.length := by
  obtain ⟨p, q, u, vp, vq, vu, k, bs, rfl, rfl, h, _⟩ := h
  have a := getP_lt h.obj; have b := getP_lt h.blk; have c := getP_lt h.used
  intro n hn; simp at hn; rcases hn with rfl | rfl | rfl <;> assumption
theorem StoreR.lt {PS : PL} {x : HV} {own : List Nat} {m : Shelf} (h : StoreR PS x own m) : ∀ n ∈ own, n < PS.length := by
  obtain ⟨p, u, q, vp, vu, vq, E, rfl, rfl, h⟩ := h
  have a := getP_lt h.obj; have b := getP_lt h.blk; have c := getP_lt h.used
  intro n hn; simp at hn; rcases hn with rfl | rfl | rfl <;> assumption
theorem StoreP.frame {PS PS' : PL} {x : HV} {own : List Nat} {m : Shelf} (h : StoreP PS x own m) (hx : ∀ n ∈ own, getP PS' n = getP PS n) : StoreP PS' x own m := by
  obtain ⟨p, q, u, vp, vq, vu, k, bs, rfl, rfl, h, hb⟩ := h
  exact ⟨p, q, u, vp, vq, vu, k, bs, rfl, rfl, ⟨(hx p (by simp)).trans h.obj, (hx u (by simp)).trans h.used, (hx q (by simp)).trans h.blk, h.len, h.all, h.few, h.ne⟩, hb⟩
theorem StoreR.frame {PS PS' : PL} {x : HV} {own : List Nat} {m : Shelf} (h : StoreR PS x own m) (hx : ∀ n ∈ own, getP PS' n = getP PS n) : StoreR PS' x own m := by
  obtain ⟨p, u, q, vp, vu, vq, E, rfl, rfl, h⟩ := h
  exact ⟨p, u, q, vp, vu, vq, E, rfl, rfl, ⟨(hx p (by simp)).trans h.obj, (hx u (by simp)).trans h.used, (hx q (by simp)).trans h.blk, h.len, h.one, h.all, h.few, h.ne⟩⟩
theorem StoreP.app {PS : PL} {x : HV} {own : List Nat} {m : Shelf} (h : StoreP PS x own m) (l : PL) : StoreP (PS ++ l) x own m := h.frame fun n hn => getP_app' l (h.lt n hn)
theorem StoreR.app {PS : PL} {x : HV} {own : List Nat} {m : Shelf} (h : StoreR PS x own m) (l : PL) : StoreR (PS ++ l) x own m := h.frame fun n hn => getP_app' l (h.lt n hn)
theorem StoreP.few {PS : PL} {x : HV} {own : List Nat} {m : Shelf} (h : StoreP PS x own m) : m.length ≤ 256 := by
  obtain ⟨p, q, u, vp, vq, vu, k, bs, rfl, rfl, h, hb⟩ := h
  simpa using h.few
theorem Shelf.get_held (m : Shelf) (id : Int) : held m id = (m.get id).isSome := by
  unfold held Shelf.get
  by_cases h : 0 ≤ id <;> simp [h]
theorem Shelf.get_some {m : Shelf} {id : Int} {b : List UInt8} (h : m.get id = some b) : ∃ n : Nat, id = n ∧ m[n]? = some (some b) := by
  unfold Shelf.get at h
  split at h
  · rename_i h0
    refine ⟨id.toNat, by omega, ?_⟩
    simp only [List.getD] at h
    cases hm : m[id.toNat]? with
    | none => rw [hm] at h; simp at h
    | some o => rw [hm] at h; simp at h; rw [h]
  · cases h
theorem is_some {m : Shelf} {n : Nat} {b : List UInt8} (h : m[n]? = some (some b)) : (m.map Option.isSome)[n]? = some true := by simp [h]
theorem not_held {m : Shelf} {id : Int} (h : m.get id = none) : held m id = false := by rw [Shelf.get_held, h]; rfl
theorem not_held' {m : Shelf} {id : Int} (h : m.get id = none) : (decide (0 ≤ id) && (m.map Option.isSome).getD id.toNat false) = false := by rw [held_eq]; exact not_held h
variable {PS : PL} {x : HV} {own : List Nat} {m : Shelf}
theorem P_Used (h : StoreP PS x own m) : HCall Try.prog 23 [x] PS fun r PS' => r = .imm false (ints m.used) ∧ PS' = PS := by
  obtain ⟨p, q, u, vp, vq, vu, k, bs, rfl, rfl, h, hb⟩ := h
  have := used_f PS p u vp vu _ _ _ _ h.obj h.used (by have := h.few; omega)
  rw [List.length_map] at this
  exact this
theorem R_Used (h : StoreR PS x own m) : HCall Try.prog 24 [x] PS fun r PS' => r = .imm false (ints m.used) ∧ PS' = PS := by
  obtain ⟨p, u, q, vp, vu, vq, E, rfl, rfl, h⟩ := h
  exact rused_ PS p q u vp vq vu m E h
theorem P_Left (h : StoreP PS x own m) : HCall Try.prog 14 [x] PS fun r PS' => r = .int .i64 m.left ∧ PS' = PS := by
  obtain ⟨p, q, u, vp, vq, vu, k, bs, rfl, rfl, h, hb⟩ := h
  have := left_ PS p u vp vu _ _ _ _ h.obj h.used (by have := h.few; omega)
  simp only [List.length_map] at this
  exact HCall.data (.int _ _) this
theorem R_Left (h : StoreR PS x own m) : HCall Try.prog 25 [x] PS fun r PS' => r = .int .i64 m.left ∧ PS' = PS := by
  obtain ⟨p, u, q, vp, vu, vq, E, rfl, rfl, h⟩ := h
  exact rleft_ PS p q u vp vq vu m E h
theorem P_Free (h : StoreP PS x own m) (id : Int) : HCall Try.prog 15 [x, .int .i64 id] PS fun r PS' => r = .int .i64 (m.free id).1 ∧ Ext own PS PS' ∧ StoreP PS' x own (m.free id).2 := by
  unfold Shelf.free
  have h0 := h
  obtain ⟨p, q, u, vp, vq, vu, k, bs, rfl, rfl, h, hb⟩ := h
  cases hg : m.get id with
  | none =>
    refine (free_no PS p q u vp vq vu k _ bs id h (not_held' hg)).mono ?_
    rintro r PS' ⟨rfl, rfl⟩
    exact ⟨rfl, (Ext.refl _).mono (by simp), h0⟩
  | some b =>
    obtain ⟨n, rfl, hn⟩ := Shelf.get_some hg
    refine (free_yes PS p q u vp vq vu k _ bs n h (is_some hn)).mono ?_
    rintro r PS' ⟨rfl, hx, hs⟩
    refine ⟨rfl, hx.mono (by simp), p, q, u, vp, vq, vu, k, bs, rfl, rfl, ?_, fun i c hc => ?_⟩
    · simpa [List.map_set] using hs
    · simp only [Int.toNat_natCast, List.getElem?_set] at hc
      split at hc
      · split at hc <;> simp at hc
      · exact hb i c hc
theorem R_Free (h : StoreR PS x own m) (id : Int) : HCall Try.prog 18 [x, .int .i64 id] PS fun r PS' => r = .int .i64 (m.free id).1 ∧ Ext own PS PS' ∧ StoreR PS' x own (m.free id).2 := by
  unfold Shelf.free
  have h0 := h
  obtain ⟨p, u, q, vp, vu, vq, E, rfl, rfl, h⟩ := h
  cases hg : m.get id with
  | none =>
    refine (rfree_no PS p q u vp vq vu m E h id (not_held hg)).mono ?_
    rintro r PS' ⟨rfl, rfl⟩
    exact ⟨rfl, (Ext.refl _).mono (by simp), h0⟩
  | some b =>
    obtain ⟨n, rfl, hn⟩ := Shelf.get_some hg
    refine (rfree_yes PS p q u vp vq vu m E h n b hn).mono ?_
    rintro r PS' ⟨rfl, hx, hs⟩
    exact ⟨rfl, hx.mono (by simp), p, u, q, vp, vu, vq, E, rfl, rfl, hs⟩
theorem P_Read (h : StoreP PS x own m) (id : Int) : HCall Try.prog 12 [x, .int .i64 id] PS fun r PS' => (∃ t, r = .tup [.imm t (bytesRows (m.read id).1), .int .i64 (m.read id).2]) ∧ PS' = PS := by
  unfold Shelf.read
  obtain ⟨p, q, u, vp, vq, vu, k, bs, rfl, rfl, h, hb⟩ := h
  cases hg : m.get id with
  | none => exact (read_no PS p q u vp vq vu k _ bs h id (not_held' hg)).mono fun _ _ ⟨h1, h2⟩ => ⟨⟨true, h1⟩, h2⟩
  | some b =>
    obtain ⟨n, rfl, hn⟩ := Shelf.get_some hg
    exact (read_yes PS p q u vp vq vu k _ bs h n (is_some hn) b (hb n b hn)).mono fun _ _ ⟨h1, h2⟩ => ⟨⟨false, h1⟩, h2⟩
theorem R_Read (h : StoreR PS x own m) (id : Int) : HCall Try.prog 20 [x, .int .i64 id] PS fun r PS' => (∃ t, r = .tup [.imm t (bytesRows (m.read id).1), .int .i64 (m.read id).2]) ∧ PS' = PS := by
  unfold Shelf.read
  obtain ⟨p, u, q, vp, vu, vq, E, rfl, rfl, h⟩ := h
  cases hg : m.get id with
  | none => exact (rread_no PS p q u vp vq vu m E h id (not_held hg)).mono fun _ _ ⟨h1, h2⟩ => ⟨⟨true, h1⟩, h2⟩
  | some b =>
    obtain ⟨n, rfl, hn⟩ := Shelf.get_some hg
    exact (rread_yes PS p q u vp vq vu m E h n b hn).mono fun _ _ ⟨h1, h2⟩ => ⟨⟨false, h1⟩, h2⟩
theorem P_Write (h : StoreP PS x own m) (id : Int) (t : Bool) (l : List UInt8) : HCall Try.prog 11 [x, .int .i64 id, .imm t (bytesRows l)] PS fun r PS' => r = .int .i64 (m.write id l).1 ∧ Ext own PS PS' ∧ StoreP PS' x own (m.write id l).2 := by
  unfold Shelf.write
  have h0 := h
  obtain ⟨p, q, u, vp, vq, vu, k, bs, rfl, rfl, h, hb⟩ := h
  cases hg : m.get id with
  | none =>
    refine (write_no PS p q u vp vq vu k _ bs h id (not_held' hg) t l).mono ?_
    rintro r PS' ⟨rfl, rfl⟩
    exact ⟨rfl, (Ext.refl _).mono (by simp), h0⟩
  | some b =>
    obtain ⟨n, rfl, hn⟩ := Shelf.get_some hg
    by_cases hl : l.length = 256
    · simp only [if_pos hl]
      refine (write_yes PS p q u vp vq vu k _ bs h n (is_some hn) t l hl).mono ?_
      rintro r PS' ⟨rfl, hx, hs⟩
      refine ⟨rfl, hx.mono (by simp), p, q, u, vp, vq, vu, k, bs.set n l, rfl, rfl, ?_, fun i c hc => ?_⟩
      · have e : (m.set n (some l)).map Option.isSome = m.map Option.isSome := by
          refine List.ext_getElem? fun i => ?_
          rw [List.getElem?_map, List.getElem?_map]
          by_cases he : n = i
          · subst he; rw [List.getElem?_set_self (lt_of_get hn), hn]; rfl
          · rw [List.getElem?_set_ne he]
        rw [Int.toNat_natCast, e]; exact hs
      · rw [Int.toNat_natCast] at hc
        by_cases he : n = i
        · subst he
          rw [List.getElem?_set_self (lt_of_get hn)] at hc
          cases hc
          have := lt_of_get (hb n b hn)
          rw [List.getElem?_set_self this]
        · rw [List.getElem?_set_ne he] at hc ⊢
          exact hb i c hc
    · simp only [if_neg hl]
      refine (write_bad PS p q u vp vq vu k _ bs h n (is_some hn) t l hl).mono ?_
      rintro r PS' ⟨rfl, rfl⟩
      exact ⟨rfl, (Ext.refl _).mono (by simp), h0⟩
theorem R_Write (h : StoreR PS x own m) (id : Int) (t : Bool) (l : List UInt8) : HCall Try.prog 19 [x, .int .i64 id, .imm t (bytesRows l)] PS fun r PS' => r = .int .i64 (m.write id l).1 ∧ Ext own PS PS' ∧ StoreR PS' x own (m.write id l).2 := by
  unfold Shelf.write
  have h0 := h
  obtain ⟨p, u, q, vp, vu, vq, E, rfl, rfl, h⟩ := h
  cases hg : m.get id with
  | none =>
    refine (rwrite_no PS p q u vp vq vu m E h id (not_held hg) t l).mono ?_
    rintro r PS' ⟨rfl, rfl⟩
    exact ⟨rfl, (Ext.refl _).mono (by simp), h0⟩
  | some b =>
    obtain ⟨n, rfl, hn⟩ := Shelf.get_some hg
    by_cases hl : l.length = 256
    · simp only [if_pos hl]
      refine (rwrite_yes PS p q u vp vq vu m E h n b hn t l hl).mono ?_
      rintro r PS' ⟨rfl, hx, E', hs⟩
      exact ⟨rfl, hx.mono (by simp), p, u, q, vp, vu, vq, E', rfl, rfl, hs⟩
    · simp only [if_neg hl]
      refine (rwrite_bad PS p q u vp vq vu m E h n b hn t l hl).mono ?_
      rintro r PS' ⟨rfl, rfl⟩
      exact ⟨rfl, (Ext.refl _).mono (by simp), h0⟩
theorem find_none {m : Shelf} (h : m.findIdx? Option.isNone = none) : ∀ i, i < m.length → ∃ b, m[i]? = some (some b) := fun i hi => by
  rw [List.findIdx?_eq_none_iff] at h
  have := h m[i] (List.getElem_mem hi)
  cases hm : m[i] with
  | none => rw [hm] at this; cases this
  | some b => exact ⟨b, by rw [← hm]; simp [hi]⟩
theorem find_some {m : Shelf} {k : Nat} (h : m.findIdx? Option.isNone = some k) : m[k]? = some none ∧ ∀ i, i < k → ∃ b, m[i]? = some (some b) := by
  rw [List.findIdx?_eq_some_iff_getElem] at h
  obtain ⟨hk, h1, h2⟩ := h
  constructor
  · have : m[k] = none := by simpa using h1
    rw [← this]; simp [hk]
  · intro i hi
    have := h2 i hi
    cases hm : m[i]'(by omega) with
    | none => rw [hm] at this; simp at this
    | some b => exact ⟨b, by rw [← hm]; simp⟩
theorem P_Alloc (h : StoreP PS x own m) : HCall Try.prog 9 [x] PS fun r PS' => r = .tup [.int .i64 m.alloc.1, .int .i64 m.alloc.2.1] ∧ Ext own PS PS' ∧ StoreP PS' x own m.alloc.2.2 := by
  unfold Shelf.alloc
  have h0 := h
  obtain ⟨p, q, u, vp, vq, vu, k, bs, rfl, rfl, h, hb⟩ := h
  cases hg : m.findIdx? Option.isNone with
  | none =>
    refine (alloc_full PS p q u vp vq vu k _ bs h fun i hi => ?_).mono ?_
    · obtain ⟨b, hb⟩ := find_none hg i (by simpa using hi); simp [hb]
    · rintro r PS' ⟨rfl, rfl⟩
      exact ⟨rfl, (Ext.refl _).mono (by simp), h0⟩
  | some j =>
    obtain ⟨h1, h2⟩ := find_some hg
    refine (alloc_some PS p q u vp vq vu k _ bs h j (by simp [h1]) fun i hi => ?_).mono ?_
    · obtain ⟨b, hb⟩ := h2 i hi; simp [hb]
    · rintro r PS' ⟨rfl, hx, hs⟩
      refine ⟨rfl, hx.mono (by simp), p, q, u, vp, vq, vu, k, bs.set j zeros, rfl, rfl, ?_, fun i c hc => ?_⟩
      · simp only [List.map_set, Option.isSome_some]; exact hs
      · by_cases he : j = i
        · subst he
          rw [List.getElem?_set_self (lt_of_get h1)] at hc
          cases hc
          have := lt_of_get h1
          have hl := h.len
          rw [List.length_map] at hl
          rw [List.getElem?_set_self (by omega)]
        · rw [List.getElem?_set_ne he] at hc ⊢
          exact hb i c hc
theorem R_Alloc (h : StoreR PS x own m) : HCall Try.prog 17 [x] PS fun r PS' => r = .tup [.int .i64 m.alloc.1, .int .i64 m.alloc.2.1] ∧ Ext own PS PS' ∧ StoreR PS' x own m.alloc.2.2 := by
  unfold Shelf.alloc
  have h0 := h
  obtain ⟨p, u, q, vp, vu, vq, E, rfl, rfl, h⟩ := h
  cases hg : m.findIdx? Option.isNone with
  | none =>
    refine (ralloc_full PS p q u vp vq vu m E h (find_none hg)).mono ?_
    rintro r PS' ⟨rfl, rfl⟩
    exact ⟨rfl, (Ext.refl _).mono (by simp), h0⟩
  | some j =>
    obtain ⟨h1, h2⟩ := find_some hg
    refine (ralloc_some PS p q u vp vq vu m E h j h1 h2).mono ?_
    rintro r PS' ⟨rfl, hx, E', hs⟩
    exact ⟨rfl, hx.mono (by simp), p, u, q, vp, vu, vq, E', rfl, rfl, hs⟩
theorem P_New (PS : PL) (n : Nat) (h0 : 1 ≤ n) (h1 : n ≤ 256) : HCall Try.prog 8 [.int .i64 n] PS fun r PS' => ∃ p own, r = .tup [.ptr p 0 0 0, .int .i64 0] ∧ Ext [] PS PS' ∧ (∀ k ∈ own, PS.length ≤ k) ∧ StoreP PS' (.ptr p 0 0 0) own (List.replicate n none) := by
  refine (new_ PS n h0 h1).mono ?_
  rintro r PS' ⟨rfl, hx, q, u, h2, h3, hs⟩
  refine ⟨_, _, rfl, hx, ?_, _, q, u, 0, 0, 0, ⟨some n, some n, false, false⟩, List.replicate n (List.replicate 256 0), rfl, rfl, ?_, fun i b hb => ?_⟩
  · intro k hk; simp at hk; rcases hk with rfl | rfl | rfl <;> omega
  · rw [List.map_replicate]; exact hs
  · rw [List.getElem?_replicate] at hb; split at hb <;> simp at hb
theorem R_New (PS : PL) (n : Nat) (h0 : 1 ≤ n) (h1 : n ≤ 256) : HCall Try.prog 16 [.int .i64 n] PS fun r PS' => ∃ p own, r = .tup [.ptr p 0 0 0, .int .i64 0] ∧ Ext [] PS PS' ∧ (∀ k ∈ own, PS.length ≤ k) ∧ StoreR PS' (.ptr p 0 0 0) own (List.replicate n none) := by
  refine (rnew_ PS n h0 h1).mono ?_
  rintro r PS' ⟨rfl, hx, q, u, E, h2, h3, hs⟩
  refine ⟨_, _, rfl, hx, ?_, _, u, q, 0, 0, 0, E, rfl, rfl, hs⟩
  intro k hk; simp at hk; rcases hk with rfl | rfl | rfl <;> omega
theorem P_Copy (h : StoreP PS x own m) : HCall Try.prog 21 [x] PS fun r PS' => ∃ p own', r = .ptr p 0 0 0 ∧ Ext [] PS PS' ∧ (∀ k ∈ own', PS.length ≤ k) ∧ StoreP PS' (.ptr p 0 0 0) own' m := by
  obtain ⟨p, q, u, vp, vq, vu, k, bs, rfl, rfl, h, hb⟩ := h
  refine (copy_ PS p q u vp vq vu k _ bs h).mono ?_
  rintro r PS' ⟨rfl, hx, q', u', vq', vu', k', h2, h3, hs⟩
  refine ⟨_, _, rfl, hx, ?_, _, q', u', 0, vq', vu', k', bs, rfl, rfl, hs, hb⟩
  intro k hk; simp at hk; rcases hk with rfl | rfl | rfl <;> omega
end Go.Proofs.Ytpegkffdhpdciaa
