/-
  The law HouseLarge at whatever texts and numbers.
  No conditions.
-/
import Derived.Test.YtmnhpggplblbgaaGreatHlE
namespace Go.Proofs.YtmnhpggplblbgaaGreat
open Go Go.Eng Go.Mo
set_option linter.unusedSectionVars false
set_option maxRecDepth 100000
theorem hl_long1 (key val : Bs) (v kd : Int) (h : HlIn key val v kd 101 9223372036854775807 0 9223372036854775807) : @HCall (hlT key val v kd 101 9223372036854775807 0 9223372036854775807 h) Tryz.prog 9 [.stok 0, .stok 1, .tok .i64 5, .tok .i64 3] [] fun r _ => r = .bool true := by
  letI : Toks := hlT key val v kd 101 9223372036854775807 0 9223372036854775807 h
  exact trueG (orcH_ok (hlOk h rfl (sk := false) (sv := false) (fun e => by cases e) (fun e => by cases e))) (fuel := 100000) (d := 60) (by kernel_rfl)
theorem hl_long2 (key val : Bs) (v kd : Int) (h : HlIn key val v kd 0 100 101 9223372036854775807) : @HCall (hlT key val v kd 0 100 101 9223372036854775807 h) Tryz.prog 9 [.stok 0, .stok 1, .tok .i64 5, .tok .i64 3] [] fun r _ => r = .bool true := by
  letI : Toks := hlT key val v kd 0 100 101 9223372036854775807 h
  exact trueG (orcH_ok (hlOk h rfl (sk := false) (sv := false) (fun e => by cases e) (fun e => by cases e))) (fuel := 100000) (d := 60) (by kernel_rfl)
theorem hl_named {key val : Bs} {v kd kl kh vl vh : Int} {h : HlIn key val v kd kl kh vl vh} (hc : @HCall (hlT key val v kd kl kh vl vh h) Tryz.prog 9 [.stok 0, .stok 1, .tok .i64 5, .tok .i64 3] [] fun r _ => r = .bool true) :
    @HCall (hlT key val v kd kl kh vl vh h) Tryz.prog 9 [.str key, .str val, .int .i64 kd, .int .i64 v] [] fun r _ => r = .bool true := by
  letI : Toks := hlT key val v kd kl kh vl vh h
  exact HCall.sub (args := [.stok 0, .stok 1, .tok .i64 5, .tok .i64 3]) ⟨Sub.stok rfl, Sub.stok rfl, Sub.tok (show kd + 0 = kd by omega), Sub.tok (show v + 0 = v by omega), trivial⟩ hc
theorem large_ (key val : Bs) (kd v : Int) (hk : key.length ≤ 9223372036854775807) (hw : val.length ≤ 9223372036854775807) (h1 : -9223372036854775808 ≤ v ∧ v ≤ 9223372036854775807) (h2 : -9223372036854775808 ≤ kd ∧ kd ≤ 9223372036854775807) :
    ∃ T : Toks, @HCall T Tryz.prog 9 [.str key, .str val, .int .i64 kd, .int .i64 v] [] fun r _ => r = .bool true := by
  by_cases c1 : 101 ≤ key.length
  · exact ⟨_, hl_named (hl_long1 key val v kd ⟨⟨by omega, by omega⟩, ⟨by omega, by omega⟩, h1, h2⟩)⟩
  by_cases c2 : 101 ≤ val.length
  · exact ⟨_, hl_named (hl_long2 key val v kd ⟨⟨by omega, by omega⟩, ⟨by omega, by omega⟩, h1, h2⟩)⟩
  have hm : kd % 4 = 0 ∨ kd % 4 = 1 ∨ kd % 4 = 2 ∨ kd % 4 = 3 := by omega
  by_cases c3 : 9 ≤ key.length
  · rcases hm with hm | hm | hm | hm
    · exact ⟨_, hl_named (hl_ka0 key val v kd ⟨⟨by omega, by omega⟩, ⟨by omega, by omega⟩, h1, h2⟩ hm)⟩
    · exact ⟨_, hl_named (hl_ka1 key val v kd ⟨⟨by omega, by omega⟩, ⟨by omega, by omega⟩, h1, h2⟩ hm)⟩
    · exact ⟨_, hl_named (hl_ka2 key val v kd ⟨⟨by omega, by omega⟩, ⟨by omega, by omega⟩, h1, h2⟩ hm)⟩
    · exact ⟨_, hl_named (hl_ka3 key val v kd ⟨⟨by omega, by omega⟩, ⟨by omega, by omega⟩, h1, h2⟩ hm)⟩
  · rcases hm with hm | hm | hm | hm
    · by_cases c4 : 17 ≤ val.length
      · exact ⟨_, hl_named (hl_vb key val v kd ⟨⟨by omega, by omega⟩, ⟨by omega, by omega⟩, h1, h2⟩ hm)⟩
      · exact ⟨_, hl_named (hl_sm0 key val v kd ⟨⟨by omega, by omega⟩, ⟨by omega, by omega⟩, h1, h2⟩ hm)⟩
    · exact ⟨_, hl_named (hl_sm1 key val v kd ⟨⟨by omega, by omega⟩, ⟨by omega, by omega⟩, h1, h2⟩ hm)⟩
    · exact ⟨_, hl_named (hl_sm2 key val v kd ⟨⟨by omega, by omega⟩, ⟨by omega, by omega⟩, h1, h2⟩ hm)⟩
    · exact ⟨_, hl_named (hl_sm3 key val v kd ⟨⟨by omega, by omega⟩, ⟨by omega, by omega⟩, h1, h2⟩ hm)⟩
end Go.Proofs.YtmnhpggplblbgaaGreat
