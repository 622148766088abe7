/-
  A hall laid by hand, looked at, run.
  No conditions.
-/
import Derived.Test.YtcimbpdkejgnlaaGreatVwB
namespace Go.Proofs.YtcimbpdkejgnlaaGreat
open Go Go.Eng Go.Mo
set_option linter.unusedSectionVars false
set_option maxRecDepth 100000
theorem vw_0 (key : Bs) (v : Int) (h : VwIn key v 0 0 0 255) (hk : key.length ≤ 8) (hs : cmpB [99] key = 1) (hp : ∀ T : Toks, @Pure T Tryz.prog 29 [.int .i64 v] (.agg (keyL key))) : @HCall (vwT key v 0 0 0 255 h) Tryz.prog 5 [.tok .i64 3] [] fun r _ => r = .bool true := by
  letI : Toks := vwT key v 0 0 0 255 h
  exact trueF (orcV_ok (vwOk h hk hs) (hp _)) (fuel := 100000) (d := 60) (by kernel_rfl)
theorem vw_1 (key : Bs) (v : Int) (h : VwIn key v 1 1 0 98) (hk : key.length ≤ 8) (hs : cmpB [99] key = 1) (hp : ∀ T : Toks, @Pure T Tryz.prog 29 [.int .i64 v] (.agg (keyL key))) : @HCall (vwT key v 1 1 0 98 h) Tryz.prog 5 [.tok .i64 3] [] fun r _ => r = .bool true := by
  letI : Toks := vwT key v 1 1 0 98 h
  exact trueF (orcV_ok (vwOk h hk hs) (hp _)) (fuel := 100000) (d := 60) (by kernel_rfl)
theorem vw_2 (key : Bs) (v : Int) (h : VwIn key v 1 1 100 255) (hk : key.length ≤ 8) (hs : cmpB [99] key = -1) (hp : ∀ T : Toks, @Pure T Tryz.prog 29 [.int .i64 v] (.agg (keyL key))) : @HCall (vwT key v 1 1 100 255 h) Tryz.prog 5 [.tok .i64 3] [] fun r _ => r = .bool true := by
  letI : Toks := vwT key v 1 1 100 255 h
  exact trueF (orcV_ok (vwOk h hk hs) (hp _)) (fuel := 100000) (d := 60) (by kernel_rfl)
theorem vw_3 (key : Bs) (v : Int) (h : VwIn key v 2 8 0 255) (hk : key.length ≤ 8) (hs : cmpB [99] key = 1) (hp : ∀ T : Toks, @Pure T Tryz.prog 29 [.int .i64 v] (.agg (keyL key))) : @HCall (vwT key v 2 8 0 255 h) Tryz.prog 5 [.tok .i64 3] [] fun r _ => r = .bool true := by
  letI : Toks := vwT key v 2 8 0 255 h
  exact trueF (orcV_ok (vwOk h hk hs) (hp _)) (fuel := 100000) (d := 60) (by kernel_rfl)
theorem vw_4 (key : Bs) (v : Int) (h : VwIn key v 2 8 0 255) (hk : key.length ≤ 8) (hs : cmpB [99] key = -1) (hp : ∀ T : Toks, @Pure T Tryz.prog 29 [.int .i64 v] (.agg (keyL key))) : @HCall (vwT key v 2 8 0 255 h) Tryz.prog 5 [.tok .i64 3] [] fun r _ => r = .bool true := by
  letI : Toks := vwT key v 2 8 0 255 h
  exact trueF (orcV_ok (vwOk h hk hs) (hp _)) (fuel := 100000) (d := 60) (by kernel_rfl)
theorem vw_c (v : Int) (hv : -9223372036854775808 ≤ v ∧ v ≤ 9223372036854775807) (h : VwIn [99] v 1 1 99 99) (hp : ∀ T : Toks, @Pure T Tryz.prog 29 [.int .i64 v] (.agg (keyL [99]))) : @HCall (vwT [99] v 1 1 99 99 h) Tryz.prog 5 [.tok .i64 3] [] fun r _ => r = .bool true := by
  letI : Toks := vwT [99] v 1 1 99 99 h
  exact trueF (orcVC_ok (v := v) rfl (hp _)) (fuel := 100000) (d := 60) (by kernel_rfl)
theorem ways_ (v : Int) (hv : -9223372036854775808 ≤ v ∧ v ≤ 9223372036854775807) :
    ∃ T : Toks, @HCall T Tryz.prog 5 [.int .i64 v] [] fun r _ => r = .bool true := by
  obtain ⟨key, hk, hp⟩ := gen_key v
  have hk : key.length ≤ 8 := hk
  have b0 : ∀ y : UInt8, (0 : Int) ≤ (y.toNat : Int) ∧ (y.toNat : Int) ≤ 255 := fun y => ⟨by omega, by have := y.toNat_lt; omega⟩
  have fin : ∀ (nl nh bl bh : Int) (h : VwIn key v nl nh bl bh), @HCall (vwT key v nl nh bl bh h) Tryz.prog 5 [.tok .i64 3] [] (fun r _ => r = .bool true) → ∃ T : Toks, @HCall T Tryz.prog 5 [.int .i64 v] [] fun r _ => r = .bool true := by
    intro nl nh bl bh h hc
    refine ⟨vwT key v nl nh bl bh h, ?_⟩
    letI : Toks := vwT key v nl nh bl bh h
    exact HCall.sub (args := [.tok .i64 3]) ⟨Sub.tok (show v = v from rfl), trivial⟩ hc
  match key, hk, hp, fin with
  | [], hk, hp, fin =>
    have h : VwIn [] v 0 0 0 255 := ⟨⟨by simp, by simp⟩, b0 _, hv⟩
    exact fin _ _ _ _ h (vw_0 [] v h hk rfl hp)
  | [a], hk, hp, fin =>
    have ea : vwB [a] v 10 = (a.toNat : Int) := rfl
    have hb := b0 a
    by_cases h1 : a < 99
    · have h1' : a.toNat < 99 := h1
      have h : VwIn [a] v 1 1 0 98 := ⟨⟨by simp, by simp⟩, by rw [ea]; omega, hv⟩
      have h2 : ¬ (99 : UInt8) < a := fun hh => by have : (99 : UInt8).toNat < a.toNat := hh; have e : (99 : UInt8).toNat = 99 := rfl; omega
      exact fin _ _ _ _ h (vw_1 [a] v h hk (by simp [cmpB, Lib.compareBytes, h1, h2]) hp)
    · by_cases h2 : (99 : UInt8) < a
      · have h2' : (99 : UInt8).toNat < a.toNat := h2
        have e : (99 : UInt8).toNat = 99 := rfl
        have h : VwIn [a] v 1 1 100 255 := ⟨⟨by simp, by simp⟩, by rw [ea]; omega, hv⟩
        exact fin _ _ _ _ h (vw_2 [a] v h hk (by simp [cmpB, Lib.compareBytes, h2]) hp)
      · have e9 : a = 99 := by
          have h1' : ¬ a.toNat < 99 := h1
          have h2' : ¬ (99 : UInt8).toNat < a.toNat := h2
          have e : (99 : UInt8).toNat = 99 := rfl
          exact UInt8.toNat_inj.1 (by rw [e]; omega)
        subst e9
        have h : VwIn [99] v 1 1 99 99 := ⟨⟨by simp, by simp⟩, by rw [ea]; decide, hv⟩
        exact fin _ _ _ _ h (vw_c v hv h hp)
  | a :: c :: l, hk, hp, fin =>
    have hl : (a :: c :: l).length ≤ 8 := hk
    have h : VwIn (a :: c :: l) v 2 8 0 255 := ⟨⟨by simp; omega, by omega⟩, b0 _, hv⟩
    have hs : cmpB [99] (a :: c :: l) = 1 ∨ cmpB [99] (a :: c :: l) = -1 := by
      simp only [cmpB, Lib.compareBytes]
      split
      · exact .inr rfl
      · split
        · exact .inl rfl
        · exact .inr rfl
    rcases hs with hs | hs
    · exact fin _ _ _ _ h (vw_3 _ v h hk hs hp)
    · exact fin _ _ _ _ h (vw_4 _ v h hk hs hp)
end Go.Proofs.YtcimbpdkejgnlaaGreat
