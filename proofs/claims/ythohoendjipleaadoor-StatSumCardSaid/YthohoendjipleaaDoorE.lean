/-
  The law's total. Conditions: the sum of the counters is a word.
-/
import Derived.Test.YthohoendjipleaaDoorC
namespace Go.Proofs.YthohoendjipleaaDoor
open Go.RowKit

theorem total_is (x0 x1 x2 x3 x4 x5 x6 x7 x8 x9 : Int) (a b : Nat) (h2 : 0 ≤ x2) (h3 : 0 ≤ x3) (h4 : 0 ≤ x4) (h5 : 0 ≤ x5) (h6 : 0 ≤ x6) (hs : x2 + x3 + x4 + x5 + x6 ≤ 18446744073709551615) (w : World) :
    Calls Tryd.prog 13 #[.agg #[.int .u64 x0, .int .u64 x1, .int .u64 x2, .int .u64 x3, .int .u64 x4, .int .u64 x5, .int .u64 x6, .int .u64 x7, .int .u64 x8, .int .u64 x9, .complex .f64 a b]] w fun e w' => e = .returned (.int .u64 (x2 + x3 + x4 + x5 + x6)) ∧ Later w w' := by
  have s1 : x2 + x3 ≤ 18446744073709551615 := by omega
  have s2 : x2 + x3 + x4 ≤ 18446744073709551615 := by omega
  have s3 : x2 + x3 + x4 + x5 ≤ 18446744073709551615 := by omega
  go_enter Tryd.func13, Tryd.ntmps13
  go_wp2_with fail
  go_ret
  exact ⟨rfl, by repeat (first | exact Later.refl _ | assumption | apply Later.alloc | apply Later.drew | apply Later.drewN | refine Later.trans ?_ (by assumption))⟩
end Go.Proofs.YthohoendjipleaaDoor
