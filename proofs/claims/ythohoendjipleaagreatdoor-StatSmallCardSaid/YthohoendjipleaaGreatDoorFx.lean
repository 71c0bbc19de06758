/-
  Plain facts of the model's floats: a number that the format has is written as it was read; a word and zero. Conditions: none.
-/
import Derived.Test.YthohoendjipleaaGreatDoorFl
namespace Go.Proofs.YthohoendjipleaaGreatDoor
open Ieee

theorem log2_mul_pow (m p : Nat) (hm : m ≠ 0) : (m * 2 ^ p).log2 = m.log2 + p := by
  have hp : 0 < 2 ^ p := Nat.two_pow_pos p
  have h0 : m * 2 ^ p ≠ 0 := Nat.mul_ne_zero hm (by omega)
  have a1 : 2 ^ m.log2 ≤ m := Nat.log2_self_le hm
  have a2 : m < 2 ^ (m.log2 + 1) := Nat.lt_log2_self
  have b1 : 2 ^ (m.log2 + p) ≤ m * 2 ^ p := by rw [Nat.pow_add]; exact Nat.mul_le_mul_right _ a1
  have b2 : m * 2 ^ p < 2 ^ (m.log2 + p + 1) := by
    rw [show m.log2 + p + 1 = m.log2 + 1 + p by omega, Nat.pow_add 2 (m.log2 + 1) p]
    exact Nat.mul_lt_mul_of_pos_right a2 hp
  have c1 := (Nat.log2_lt h0).2 b2
  have c2 : ¬ (m * 2 ^ p).log2 < m.log2 + p := fun h => by
    have := (Nat.log2_lt h0).1 h
    omega
  omega
theorem cut_exact (m p : Nat) (hm : m ≠ 0) : Toward.even.cut false (m * 2 ^ p) p = m := by
  unfold Toward.cut
  have h1 : min p ((m * 2 ^ p).log2 + 2) = p := by rw [log2_mul_pow m p hm]; omega
  simp only [h1, Nat.shiftLeft_eq, Nat.one_mul]
  have hp : 0 < 2 ^ p := Nat.two_pow_pos p
  rw [Nat.mul_div_cancel _ hp, Nat.mul_mod_left]
  have h2 : decide (2 ^ p < 2 * 0) = false := by simp
  have h3 : (2 ^ p == 2 * 0) = false := by simp
  rw [h2, h3]; simp
theorem log2_52 (m : Nat) (h1 : 4503599627370496 ≤ m) (h2 : m < 9007199254740992) : m.log2 = 52 := by
  have h0 : m ≠ 0 := by omega
  have a := (Nat.log2_lt h0 (k := 53)).2 (by omega)
  have b : ¬ m.log2 < 52 := fun h => by
    have := (Nat.log2_lt h0 (k := 52)).1 h
    omega
  omega
/-- what is read is written again -/
theorem near_val (w : Nat) (h : w < 9218868437227405312) : double.nearest false (magW w * 2 ^ plcW w) (-1074) = w := by
  unfold Format.nearest
  by_cases h0 : w = 0
  · subst h0; decide
  have hp : 0 < 2 ^ plcW w := Nat.two_pow_pos _
  have hm0 : magW w ≠ 0 := by unfold magW; split <;> omega
  rw [if_neg (Nat.mul_ne_zero hm0 (by omega))]
  simp only [frac_eq, least_eq, binade_eq, inf_eq, Format.word, Bool.false_eq_true, if_false]
  by_cases hs : w < 4503599627370496
  · have e1 : magW w = w := by unfold magW; rw [if_pos hs]
    have e2 : plcW w = 0 := by unfold plcW; rw [if_pos hs]
    rw [e1, e2, Nat.pow_zero, Nat.mul_one]
    have hl : w.log2 < 52 := (Nat.log2_lt h0).2 hs
    have hmax : max (-1074 + (w.log2 : Int) - (52 : Nat)) (-1074) = -1074 := by omega
    rw [hmax]
    have := cut_exact w 0 h0
    simp only [Int.sub_self, Int.toNat_zero, Nat.shiftLeft_zero, Nat.zero_mul, Nat.zero_add]
    rw [Nat.pow_zero, Nat.mul_one] at this
    rw [this]
    omega
  · have e1 : magW w = 4503599627370496 + w % 4503599627370496 := by unfold magW; rw [if_neg hs]
    have e2 : plcW w = w / 4503599627370496 - 1 := by unfold plcW; rw [if_neg hs]
    have hl := log2_52 (magW w) (by omega) (magW_lt w)
    rw [log2_mul_pow _ _ hm0, hl]
    have hmax : max (-1074 + ((52 + plcW w : Nat) : Int) - (52 : Nat)) (-1074) = -1074 + (plcW w : Int) := by omega
    rw [hmax]
    rw [show (-1074 - (-1074 + (plcW w : Int))).toNat = 0 by omega, show (-1074 + (plcW w : Int) - -1074).toNat = plcW w by omega, Nat.shiftLeft_zero, cut_exact _ _ hm0, e1, e2]
    omega
theorem add0_eq (w : Nat) (h : w < 9218868437227405312) : double.add w 0 = some w := by
  rw [sum_pos w 0 h (by omega)]
  have e0 : magW 0 = 0 := by decide
  have e2 : plcW 0 = 0 := by decide
  rw [e0, e2]
  simp only [Nat.min_zero, Nat.sub_zero, Nat.zero_mul, Nat.add_zero]
  exact congrArg some (near_val w h)
end Go.Proofs.YthohoendjipleaaGreatDoor
