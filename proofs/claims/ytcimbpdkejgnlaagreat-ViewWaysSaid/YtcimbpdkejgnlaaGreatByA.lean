/-
  Bytes as rows.
  No conditions.
-/
import Derived.Test.YtcimbpdkejgnlaaGreatEngZ
namespace Go.Eng
open Go
set_option linter.unusedSectionVars false
variable [Toks]
theorem bytesRows_len (l : List UInt8) : (bytesRows l).length = l.length := by simp [bytesRows]
theorem bytesRows_one (l : List UInt8) : ∀ r ∈ bytesRows l, r.length = 1 := by intro r hr; simp [bytesRows] at hr; obtain ⟨b, _, rfl⟩ := hr; rfl
@[go_sem ↓, go_sem] theorem bytesRows_ok (l : List UInt8) : (∀ r ∈ bytesRows l, r.length = 1) = True := eq_true (bytesRows_one l)
theorem bytesRows_scoped (k : Nat) (t : Bool) (l : List UInt8) : Scoped k (.imm t (bytesRows l)) := by
  rw [scoped_imm]; intro r hr x hx; simp [bytesRows] at hr; obtain ⟨b, _, rfl⟩ := hr; simp at hx; subst hx; exact .int _ _
@[go_sem ↓, go_sem] theorem bytesOf_rows (l : List UInt8) : bytesOf (bytesRows l) = some l := by
  induction l with
  | nil => rfl
  | cons a l ih =>
    have : bytesRows (a :: l) = [HV.int .u8 a.toNat] :: bytesRows l := rfl
    rw [this]
    simp [bytesOf, ih]
end Go.Eng
