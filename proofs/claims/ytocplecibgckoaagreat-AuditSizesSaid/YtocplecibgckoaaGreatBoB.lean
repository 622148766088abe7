import Derived.Test.YtocplecibgckoaaGreatBoA
namespace Go.Eng
open Go
theorem auL_le (each : Int) : ∀ (k : Nat) (n : Int), n ≤ 1152921504606846976 → 1 ≤ each → auL each k n ≤ 1152921504606846976
  | 0, n, h, _ => h
  | k + 1, n, h, he => by
    rw [auL]
    split
    · omega
    · exact auL_le each k _ ((Int.le_ediv_iff_mul_le (by omega)).1 (by omega)) he
theorem auB_le (d t w : Int) : auB d t w ≤ 1152921504606846976 := by
  have h2 : 1 ≤ auHeld t 64 ∧ auHeld t 64 ≤ 64 := by unfold auHeld; omega
  have h3 : 1 ≤ auHeld w 4096 ∧ auHeld w 4096 ≤ 4096 := by unfold auHeld; omega
  refine auL_le _ _ _ ?_ (by omega)
  have w2 : auHeld w 4096 * 64 * auHeld t 64 ≤ 262144 * 64 := Int.mul_le_mul (by omega) h2.2 (by omega) (by omega)
  omega
theorem auB_at (d : Nat) (t w : Int) (hd : 1 ≤ d ∧ d ≤ 64) (ht : 1 ≤ t ∧ t ≤ 64) (hw : 1 ≤ w ∧ w ≤ 4096) : auB d t w = auL (48 * t) d (w * 64 * t) := by
  have e1 : auHeld (d : Int) 64 = d := by unfold auHeld; omega
  have e2 : auHeld t 64 = t := by unfold auHeld; omega
  have e3 : auHeld w 4096 = w := by unfold auHeld; omega
  rw [auB, e1, e2, e3, Int.toNat_natCast]
set_option maxHeartbeats 4000000 in
theorem auB_law (d : Nat) (t w : Int) (hd : 1 ≤ d ∧ d ≤ 4) (ht : 1 ≤ t ∧ t ≤ 8) (hw : 1 ≤ w ∧ w ≤ 100) :
    0 < auB d t w ∧ auB d t w = w * auB d t 1 ∧ auB (d + 1 : Nat) t w = auB d t w * 48 * t ∧ auB d t w < auB d (t + 1) w ∧
    auB d t w ≤ 2251799813685248 ∧ auB d t 1 ≤ 22517998136852 ∧ 0 < auB d t 1 := by
  rw [auB_at d t w (by omega) (by omega) (by omega), auB_at d t 1 (by omega) (by omega) (by omega), auB_at (d + 1) t w (by omega) (by omega) (by omega), auB_at d (t + 1) w (by omega) (by omega) (by omega)]
  have h1 : d = 1 ∨ d = 2 ∨ d = 3 ∨ d = 4 := by omega
  have h2 : t = 1 ∨ t = 2 ∨ t = 3 ∨ t = 4 ∨ t = 5 ∨ t = 6 ∨ t = 7 ∨ t = 8 := by omega
  rcases h1 with rfl | rfl | rfl | rfl <;> rcases h2 with rfl | rfl | rfl | rfl | rfl | rfl | rfl | rfl <;> simp only [auL, Int.reduceMul, Int.reduceDiv, Int.reduceLT, ↓reduceIte, Int.reduceAdd] <;> refine ⟨?_, ?_, ?_, ?_, ?_, ?_, ?_⟩ <;> first | trivial | (repeat (split; · omega)) <;> first | trivial | omega
theorem auB_zero (t w : Int) : auB 0 t w = auB 1 t w := rfl
end Go.Eng
