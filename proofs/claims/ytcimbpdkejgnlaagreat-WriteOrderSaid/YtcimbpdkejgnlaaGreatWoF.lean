/-
  Writers in their order, run: each row of rests.
  No conditions.
-/
import Derived.Test.YtcimbpdkejgnlaaGreatWoC
import Derived.Test.YtcimbpdkejgnlaaGreatWoD
import Derived.Test.YtcimbpdkejgnlaaGreatWoE
namespace Go.Proofs.YtcimbpdkejgnlaaGreat
open Go Go.Eng Go.Mo
set_option linter.unusedSectionVars false
set_option maxRecDepth 100000
theorem order_ (v : Int) (x y z : UInt8) (hv : -9223372036854775808 ≤ v ∧ v ≤ 9223372036854775807) :
    ∃ T : Toks, @HCall T Tryz.prog 7 [.int .i64 v, .agg [.int .u8 x.toNat, .int .u8 y.toNat, .int .u8 z.toNat]] [] fun r _ => r = .bool true := by
  obtain ⟨key, hk, hp⟩ := gen_key v
  have hm : ∀ b : UInt8, ((0 : Int) ≤ b.toNat ∧ (b.toNat : Int) ≤ 255) ∧ ∃ n : Nat, (b.toNat : Int).tmod 3 = n ∧ (n = 0 ∨ n = 1 ∨ n = 2) := fun b => ⟨⟨by omega, by have := b.toNat_lt; omega⟩, b.toNat % 3, rfl, by omega⟩
  obtain ⟨hx, p, hp1, hp2⟩ := hm x
  obtain ⟨hy, q, hq1, hq2⟩ := hm y
  obtain ⟨hz, r, hr1, hr2⟩ := hm z
  have h : WoIn key v x.toNat y.toNat z.toNat p q r := ⟨hk, hv, ⟨hx, hp1⟩, ⟨hy, hq1⟩, ⟨hz, hr1⟩⟩
  refine ⟨woT key v x.toNat y.toNat z.toNat p q r h, ?_⟩
  letI : Toks := woT key v x.toNat y.toNat z.toNat p q r h
  refine HCall.sub (args := [.tok .i64 3, .agg [.tok .u8 40, .tok .u8 41, .tok .u8 42]]) ⟨Sub.tok (show v + 0 = v by omega), Sub.agg ⟨Sub.tok (show (x.toNat : Int) + 0 = x.toNat by omega), Sub.tok (show (y.toNat : Int) + 0 = y.toNat by omega), Sub.tok (show (z.toNat : Int) + 0 = z.toNat by omega), trivial⟩, trivial⟩ ?_
  rcases hp2 with rfl | rfl | rfl <;> rcases hq2 with rfl | rfl | rfl <;> rcases hr2 with rfl | rfl | rfl
  · exact wo_000 key v _ _ _ h hp
  · exact wo_001 key v _ _ _ h hp
  · exact wo_002 key v _ _ _ h hp
  · exact wo_010 key v _ _ _ h hp
  · exact wo_011 key v _ _ _ h hp
  · exact wo_012 key v _ _ _ h hp
  · exact wo_020 key v _ _ _ h hp
  · exact wo_021 key v _ _ _ h hp
  · exact wo_022 key v _ _ _ h hp
  · exact wo_100 key v _ _ _ h hp
  · exact wo_101 key v _ _ _ h hp
  · exact wo_102 key v _ _ _ h hp
  · exact wo_110 key v _ _ _ h hp
  · exact wo_111 key v _ _ _ h hp
  · exact wo_112 key v _ _ _ h hp
  · exact wo_120 key v _ _ _ h hp
  · exact wo_121 key v _ _ _ h hp
  · exact wo_122 key v _ _ _ h hp
  · exact wo_200 key v _ _ _ h hp
  · exact wo_201 key v _ _ _ h hp
  · exact wo_202 key v _ _ _ h hp
  · exact wo_210 key v _ _ _ h hp
  · exact wo_211 key v _ _ _ h hp
  · exact wo_212 key v _ _ _ h hp
  · exact wo_220 key v _ _ _ h hp
  · exact wo_221 key v _ _ _ h hp
  · exact wo_222 key v _ _ _ h hp
end Go.Proofs.YtcimbpdkejgnlaaGreat
