/-
  The reference's Asks, Right, Allows and Within. Conditions: the rights are a byte.
-/
import Derived.Test.YtpfnccjfmbecfaaDoorC
namespace Go.Proofs.YtpfnccjfmbecfaaDoor
open Go.RowKit

theorem refAsks_is (d q : Int) (hq : askR d = q) (w : World) : Calls Tryd.prog 27 #[.int .i64 d] w fun e w' => e = .returned (.int .i64 q) ∧ w' = w := by
  have HQ := Lib.hid hq
  clear hq
  by_cases h1 : d = 1
  · obtain rfl : 1 = q := by rw [← HQ.out, h1]; rfl
    subst h1
    go_enter Tryd.func27, Tryd.ntmps27
    go_wp2
    go_ret
    exact ⟨rfl, rfl⟩
  by_cases h6 : d = 6
  · obtain rfl : 1 = q := by rw [← HQ.out, h6]; rfl
    subst h6
    go_enter Tryd.func27, Tryd.ntmps27
    go_wp2
    go_ret
    exact ⟨rfl, rfl⟩
  by_cases h2 : d = 2
  · obtain rfl : 2 = q := by rw [← HQ.out, h2]; rfl
    subst h2
    go_enter Tryd.func27, Tryd.ntmps27
    go_wp2
    go_ret
    exact ⟨rfl, rfl⟩
  by_cases h3 : d = 3
  · obtain rfl : 2 = q := by rw [← HQ.out, h3]; rfl
    subst h3
    go_enter Tryd.func27, Tryd.ntmps27
    go_wp2
    go_ret
    exact ⟨rfl, rfl⟩
  by_cases h4 : d = 4
  · obtain rfl : 2 = q := by rw [← HQ.out, h4]; rfl
    subst h4
    go_enter Tryd.func27, Tryd.ntmps27
    go_wp2
    go_ret
    exact ⟨rfl, rfl⟩
  by_cases h5 : d = 5
  · obtain rfl : 4 = q := by rw [← HQ.out, h5]; rfl
    subst h5
    go_enter Tryd.func27, Tryd.ntmps27
    go_wp2
    go_ret
    exact ⟨rfl, rfl⟩
  · obtain rfl : 0 = q := by rw [← HQ.out, askR]; simp [h1, h2, h3, h4, h5, h6]
    have n1 : (d == 1) = false := by simp [h1]
    have n2 : (d == 2) = false := by simp [h2]
    have n3 : (d == 3) = false := by simp [h3]
    have n4 : (d == 4) = false := by simp [h4]
    have n5 : (d == 5) = false := by simp [h5]
    have n6 : (d == 6) = false := by simp [h6]
    clear h1 h2 h3 h4 h5 h6
    go_enter Tryd.func27, Tryd.ntmps27
    go_wp2
    go_ret
    exact ⟨rfl, rfl⟩

theorem refRight_is (t g r : Int) (b : Bool) (r0 : 0 ≤ r) (r1 : r ≤ 255) (hb : okH t g r = b) (w : World) : Calls Tryd.prog 28 #[.agg #[.int .i64 t, .int .u32 g, .int .u8 r]] w fun e w' => e = .returned (.bool b) ∧ Later w w' := by
  have HB := Lib.hid hb
  clear hb
  by_cases h1 : ¬ 1 ≤ t
  · obtain rfl : false = b := by rw [← HB.out, okH]; simp [h1]
    clear HB
    go_enter Tryd.func28, Tryd.ntmps28
    go_wp2
    go_ret
    exact ⟨rfl, by repeat (first | exact Later.refl _ | assumption | apply Later.alloc | apply Later.drew | refine Later.trans ?_ (by assumption))⟩
  have h1 := Classical.not_not.1 h1
  by_cases h2 : ¬ t ≤ 16
  · obtain rfl : false = b := by rw [← HB.out, okH]; simp [h2]
    clear HB
    go_enter Tryd.func28, Tryd.ntmps28
    go_wp2
    go_ret
    exact ⟨rfl, by repeat (first | exact Later.refl _ | assumption | apply Later.alloc | apply Later.drew | refine Later.trans ?_ (by assumption))⟩
  have h2 := Classical.not_not.1 h2
  by_cases h3 : ¬ 1 ≤ g
  · obtain rfl : false = b := by rw [← HB.out, okH]; simp [h3]
    clear HB
    go_enter Tryd.func28, Tryd.ntmps28
    go_wp2
    go_ret
    exact ⟨rfl, by repeat (first | exact Later.refl _ | assumption | apply Later.alloc | apply Later.drew | refine Later.trans ?_ (by assumption))⟩
  have h3 := Classical.not_not.1 h3
  by_cases h4 : ¬ 1 ≤ r
  · obtain rfl : false = b := by rw [← HB.out, okH]; simp [h4]
    clear HB
    go_enter Tryd.func28, Tryd.ntmps28
    go_wp2
    go_ret
    exact ⟨rfl, by repeat (first | exact Later.refl _ | assumption | apply Later.alloc | apply Later.drew | refine Later.trans ?_ (by assumption))⟩
  have h4 := Classical.not_not.1 h4
  by_cases h5 : ¬ r ≤ 7
  · obtain rfl : false = b := by rw [← HB.out, okH]; simp [h5]
    clear HB
    go_enter Tryd.func28, Tryd.ntmps28
    go_wp2
    go_ret
    exact ⟨rfl, by repeat (first | exact Later.refl _ | assumption | apply Later.alloc | apply Later.drew | refine Later.trans ?_ (by assumption))⟩
  have h5 := Classical.not_not.1 h5
  · obtain rfl : true = b := by rw [← HB.out, okH]; simp [h1, h2, h3, h4, h5]
    clear HB
    go_enter Tryd.func28, Tryd.ntmps28
    go_wp2
    go_ret
    exact ⟨rfl, by repeat (first | exact Later.refl _ | assumption | apply Later.alloc | apply Later.drew | refine Later.trans ?_ (by assumption))⟩
end Go.Proofs.YtpfnccjfmbecfaaDoor
