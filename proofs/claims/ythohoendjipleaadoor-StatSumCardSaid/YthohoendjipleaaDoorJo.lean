/-
  The plain law of Join: the bounded sum is commutative and associative; zero changes nothing. Conditions: words.
-/
import Derived.Test.YthohoendjipleaaDoorEq
namespace Go.Proofs.YthohoendjipleaaDoor
set_option linter.unusedVariables false
theorem mo_comm (x y : Int) (hx : 0 ≤ x ∧ x ≤ 18446744073709551615) (hy : 0 ≤ y ∧ y ≤ 18446744073709551615) : mo x y = mo y x := by
  unfold mo; split <;> split <;> omega
theorem mo_assoc (x y z : Int) (hx : 0 ≤ x ∧ x ≤ 18446744073709551615) (hy : 0 ≤ y ∧ y ≤ 18446744073709551615) (hz : 0 ≤ z ∧ z ≤ 18446744073709551615) : mo (mo x y) z = mo x (mo y z) := by
  unfold mo; split <;> split <;> (try split) <;> (try split) <;> omega
theorem mo_zero (x : Int) (hx : 0 ≤ x ∧ x ≤ 18446744073709551615) : mo x 0 = x := by
  unfold mo; split <;> omega
theorem mo_full (y : Int) (hy : 0 ≤ y ∧ y ≤ 18446744073709551615) : mo 18446744073709551615 y = 18446744073709551615 := by
  unfold mo; split <;> omega
end Go.Proofs.YthohoendjipleaaDoor
