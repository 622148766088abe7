/-
  The law HallHands at each row of at most six bools.
  No conditions.
-/
import Derived.Test.YthmjdhonafnabaaGreatRunN0
import Derived.Test.YthmjdhonafnabaaGreatRunN1
import Derived.Test.YthmjdhonafnabaaGreatRunN2
import Derived.Test.YthmjdhonafnabaaGreatRunN3
import Derived.Test.YthmjdhonafnabaaGreatRunN4
import Derived.Test.YthmjdhonafnabaaGreatRunN5
import Derived.Test.YthmjdhonafnabaaGreatRunN6
import Derived.Test.YthmjdhonafnabaaGreatRunN7
namespace Go.Proofs.YthmjdhonafnabaaGreat
open Go Go.Eng
theorem hands_le (l : List Bool) (h : l.length ≤ 6) : HCall Tryz.prog 3 [.imm false (l.map fun b => [.bool b])] [] fun r _ => r = .bool true := by
  match l, h with
  | [], _ =>
    exact hands_
  | [a], _ =>
    cases a
    · exact hands_f
    · exact hands_t
  | [a, b], _ =>
    cases a <;> cases b
    · exact hands_ff
    · exact hands_ft
    · exact hands_tf
    · exact hands_tt
  | [a, b, c], _ =>
    cases a <;> cases b <;> cases c
    · exact hands_fff
    · exact hands_fft
    · exact hands_ftf
    · exact hands_ftt
    · exact hands_tff
    · exact hands_tft
    · exact hands_ttf
    · exact hands_ttt
  | [a, b, c, d], _ =>
    cases a <;> cases b <;> cases c <;> cases d
    · exact hands_ffff
    · exact hands_ffft
    · exact hands_fftf
    · exact hands_fftt
    · exact hands_ftff
    · exact hands_ftft
    · exact hands_fttf
    · exact hands_fttt
    · exact hands_tfff
    · exact hands_tfft
    · exact hands_tftf
    · exact hands_tftt
    · exact hands_ttff
    · exact hands_ttft
    · exact hands_tttf
    · exact hands_tttt
  | [a, b, c, d, e], _ =>
    cases a <;> cases b <;> cases c <;> cases d <;> cases e
    · exact hands_fffff
    · exact hands_fffft
    · exact hands_ffftf
    · exact hands_ffftt
    · exact hands_fftff
    · exact hands_fftft
    · exact hands_ffttf
    · exact hands_ffttt
    · exact hands_ftfff
    · exact hands_ftfft
    · exact hands_ftftf
    · exact hands_ftftt
    · exact hands_fttff
    · exact hands_fttft
    · exact hands_ftttf
    · exact hands_ftttt
    · exact hands_tffff
    · exact hands_tffft
    · exact hands_tfftf
    · exact hands_tfftt
    · exact hands_tftff
    · exact hands_tftft
    · exact hands_tfttf
    · exact hands_tfttt
    · exact hands_ttfff
    · exact hands_ttfft
    · exact hands_ttftf
    · exact hands_ttftt
    · exact hands_tttff
    · exact hands_tttft
    · exact hands_ttttf
    · exact hands_ttttt
  | [a, b, c, d, e, f], _ =>
    cases a <;> cases b <;> cases c <;> cases d <;> cases e <;> cases f
    · exact hands_ffffff
    · exact hands_ffffft
    · exact hands_fffftf
    · exact hands_fffftt
    · exact hands_ffftff
    · exact hands_ffftft
    · exact hands_fffttf
    · exact hands_fffttt
    · exact hands_fftfff
    · exact hands_fftfft
    · exact hands_fftftf
    · exact hands_fftftt
    · exact hands_ffttff
    · exact hands_ffttft
    · exact hands_fftttf
    · exact hands_fftttt
    · exact hands_ftffff
    · exact hands_ftffft
    · exact hands_ftfftf
    · exact hands_ftfftt
    · exact hands_ftftff
    · exact hands_ftftft
    · exact hands_ftfttf
    · exact hands_ftfttt
    · exact hands_fttfff
    · exact hands_fttfft
    · exact hands_fttftf
    · exact hands_fttftt
    · exact hands_ftttff
    · exact hands_ftttft
    · exact hands_fttttf
    · exact hands_fttttt
    · exact hands_tfffff
    · exact hands_tfffft
    · exact hands_tffftf
    · exact hands_tffftt
    · exact hands_tfftff
    · exact hands_tfftft
    · exact hands_tffttf
    · exact hands_tffttt
    · exact hands_tftfff
    · exact hands_tftfft
    · exact hands_tftftf
    · exact hands_tftftt
    · exact hands_tfttff
    · exact hands_tfttft
    · exact hands_tftttf
    · exact hands_tftttt
    · exact hands_ttffff
    · exact hands_ttffft
    · exact hands_ttfftf
    · exact hands_ttfftt
    · exact hands_ttftff
    · exact hands_ttftft
    · exact hands_ttfttf
    · exact hands_ttfttt
    · exact hands_tttfff
    · exact hands_tttfft
    · exact hands_tttftf
    · exact hands_tttftt
    · exact hands_ttttff
    · exact hands_ttttft
    · exact hands_tttttf
    · exact hands_tttttt
  | _ :: _ :: _ :: _ :: _ :: _ :: _ :: _, h => simp at h
end Go.Proofs.YthmjdhonafnabaaGreat
