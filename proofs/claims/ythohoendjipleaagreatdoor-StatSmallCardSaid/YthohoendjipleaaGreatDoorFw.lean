/-
  Every word of 64 bits, as a load's part: a part (zero with a sign, too), or none. Conditions: none.
-/
import Derived.Test.YthohoendjipleaaGreatDoorFs
import Derived.KernelRfl
namespace Go.Proofs.YthohoendjipleaaGreatDoor
open Ieee

/-- a word of a part, and the word without the sign of zero -/
def Val (a x : Nat) : Prop := (a = x ∧ x ≤ W2) ∨ (a = 9223372036854775808 ∧ x = 0)
theorem Val.of {a : Nat} (h : a ≤ W2) : Val a a := .inl ⟨rfl, h⟩
/-- a word of no part -/
def Bad (a : Nat) : Prop := double.order a 0 = none ∨ double.order a 0 = some .lt ∨ (double.order a 0 = some .gt ∧ double.order a 4611686018427387904 = some .gt)
theorem read_nan (a : Nat) (h : 9218868437227405312 < rgW a) : ∃ s t, double.read a = .nan s t := by
  unfold Format.read
  simp only [sw_eq, binade_eq, inf_eq, least_eq]
  unfold rgW at h
  have h1 : ¬ a % 9223372036854775808 < 4503599627370496 := by omega
  have h2 : ¬ a % 9223372036854775808 < 9218868437227405312 := by omega
  have h3 : ¬ a % 9223372036854775808 = 9218868437227405312 := by omega
  simp only [h1, h2, h3, if_false]
  exact ⟨_, _, rfl⟩
theorem order_nan (a b : Nat) (h : 9218868437227405312 < rgW a) : double.order a b = none := by
  obtain ⟨s, t, e⟩ := read_nan a h
  unfold Format.order
  rw [e]
  rfl
theorem valW_pos {w : Nat} (h : 0 < w) : 0 < valW w := by
  have := valW_lt h
  omega
theorem val_or_bad (a : Nat) (h : a < 18446744073709551616) : (∃ x, Val a x) ∨ Bad a := by
  by_cases h1 : a ≤ W2
  · exact .inl ⟨a, .of h1⟩
  by_cases h2 : a = 9223372036854775808
  · exact .inl ⟨0, .inr ⟨h2, rfl⟩⟩
  right
  unfold W2 at h1
  by_cases h3 : 9218868437227405312 < rgW a
  · exact .inl (order_nan a 0 h3)
  by_cases h4 : a < 9223372036854775808
  · have hr : rgW a = a := by unfold rgW; omega
    rw [hr] at h3
    by_cases h5 : a = 9218868437227405312
    · subst h5
      exact .inr (.inr ⟨by kernel_rfl, by kernel_rfl⟩)
    · refine .inr (.inr ⟨?_, ?_⟩)
      · rw [order_pos a 0 (by omega) (by omega), Nat.compare_eq_gt.2 (by omega)]
      · rw [order_pos a _ (by omega) (by omega), Nat.compare_eq_gt.2 (by omega)]
  · by_cases h5 : a = 18442240474082181120
    · subst h5
      exact .inr (.inl (by kernel_rfl))
    · refine .inr (.inl ?_)
      have hr : rgW a = a - 9223372036854775808 := by unfold rgW; omega
      rw [order_any a 0 (by omega) (by decide)]
      have hs : sgW a = true := by
        unfold sgW
        have : a / 9223372036854775808 = 1 := by omega
        rw [this]; rfl
      have hk : keyW a = -(valW (rgW a) : Int) := by unfold keyW; rw [hs]; rfl
      have h0 : keyW 0 = 0 := by decide
      have hp := valW_pos (w := rgW a) (by omega)
      rw [hk, h0, cmp_lt (by omega)]
/-- a part that is greater than 2, or none, or below zero, or zero with a sign -/
theorem signed_val_zero {a x : Nat} (h : Val a x) (ha : ¬ a ≤ W2) : a = 9223372036854775808 := by
  rcases h with ⟨rfl, h⟩ | ⟨h, _⟩
  · exact absurd h ha
  · exact h
end Go.Proofs.YthohoendjipleaaGreatDoor
