/-
  Layer 15: the load of one read and 1074 forks. Conditions: none.
-/
import Derived.Test.YtmjpjjnhlgidcaaJ
namespace Go.Proofs.Ytmjpjjnhlgidcaa
open Go.RowKit Go.Sort

/-- one get, then k empty deeds -/
def dk (k : Nat) : List Int := 1 :: List.replicate k 7
theorem dk_next (k : Nat) : dk k ++ [7] = dk (k + 1) := by rw [dk, dk, List.replicate_succ']; rfl
theorem dk_length (k : Nat) : (dk k).length = k + 1 := by simp [dk]
set_option maxRecDepth 100000 in
theorem dk_R : ldR (dk 1074) = 1 := by kernel_rfl
set_option maxRecDepth 100000 in
theorem dk_I : ldI (dk 1074) = 0 := by kernel_rfl
theorem dk_R2 : ldR (dk 1075) = 0 := by rw [← dk_next, ldR_snoc, dk_R]; kernel_rfl
theorem dk_I2 : ldI (dk 1075) = 0 := by rw [← dk_next, ldI_snoc, dk_I]; kernel_rfl
end Go.Proofs.Ytmjpjjnhlgidcaa
