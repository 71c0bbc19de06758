/-
  Plain facts of the model's floats: a half, and a half and one, by digits and places. Conditions: words up to that of 2.
-/
import Derived.Test.YthohoendjipleaaGreatDoorFt
namespace Go.Proofs.YthohoendjipleaaGreatDoor
open Ieee

/-- the digits and the place of a half -/
def hM (w : Nat) : Nat := if plcW w = 0 then rhe w 1 else magW w
def hP (w : Nat) : Nat := plcW w - 1
theorem plc_two {w : Nat} (h : w ≤ W2) : plcW w ≤ 1023 := by
  have : w ≤ 1024 * 4503599627370496 := by unfold W2 at h; omega
  exact plc_le w 1024 this (by omega)
theorem small_of_plc {w : Nat} (h : plcW w = 0) : w < 9007199254740992 ∧ magW w = w := by
  unfold plcW at h
  unfold magW
  split at h
  · next h1 => exact ⟨by omega, by rw [if_pos h1]⟩
  · next h1 => rw [if_neg h1]; exact ⟨by omega, by omega⟩
theorem hM_in (w : Nat) : hM w ≤ 9007199254740991 ∧ (4503599627370496 ≤ hM w ∨ hP w = 0) := by
  unfold hM hP
  split
  · next h =>
    have h1 := small_of_plc h
    have h2 := (rhe_le w 1).2
    rw [Nat.pow_one] at h2
    exact ⟨by omega, .inr (by omega)⟩
  · next h =>
    have h1 := magW_lt w
    exact ⟨by omega, .inl (mag_ge w (by omega))⟩
theorem half_rd (w : Nat) (hw : w ≤ W2) : double.div w W2 = some (double.nearest false (magW w) (-1075 + (plcW w : Int))) := by
  have hr2 : double.read W2 = .number false 4503599627370496 (-51) := by kernel_rfl
  unfold Format.div
  rw [read_pos w (by unfold W2 at hw; omega), hr2]
  simp only [Datum.quotient, frac_eq, Option.map_some, Format.write, Bool.false_bne, Nat.reduceEqDiff, if_false]
  by_cases h0 : magW w = 0
  · rw [h0]; simp [Format.nearest]
  have e52 : Nat.log2 4503599627370496 = 52 := by decide
  rw [e52]
  have hlm : (magW w).log2 < 53 := (Nat.log2_lt h0).2 (magW_lt w)
  obtain ⟨t, ht⟩ : ∃ t, 52 + 2 + 52 - (magW w).log2 = 52 + t := ⟨52 + 2 - (magW w).log2, by omega⟩
  rw [ht]
  have e1 : magW w <<< (52 + t) = magW w * 2 ^ t * 4503599627370496 := by
    rw [Nat.shiftLeft_eq, Nat.add_comm, Nat.pow_add, ← Nat.mul_assoc]
  rw [e1, Nat.mul_div_cancel _ (by omega), Nat.mul_mod_left]
  have e2 : 2 * (magW w * 2 ^ t) + (0 != 0).toNat = magW w * 2 ^ (t + 1) := by
    rw [Nat.pow_succ, show (0 != 0) = false from rfl]
    show 2 * (magW w * 2 ^ t) + 0 = _
    rw [Nat.add_zero, Nat.mul_comm 2, Nat.mul_assoc]
  rw [e2, near_scale _ _ _ h0]
  congr 2
  omega
theorem near_sub (w : Nat) (hw : w < 9007199254740992) : double.nearest false w (-1075) = rhe w 1 := by
  by_cases h0 : w = 0
  · subst h0; simp [Format.nearest, Format.word, rhe]
  have hl : w.log2 < 53 := (Nat.log2_lt h0).2 hw
  have hr := (rhe_le w 1).2
  rw [Nat.pow_one] at hr
  unfold Format.nearest
  rw [if_neg h0]
  simp only [frac_eq, least_eq, binade_eq, inf_eq, Format.word, Bool.false_eq_true, if_false, cut_rhe, Nat.shiftLeft_eq]
  have a1 : max (-1075 + (w.log2 : Int) - (52 : Nat)) (-1074) = -1074 := by omega
  rw [a1]
  have a2 : ((-1075 : Int) - -1074).toNat = 0 := by decide
  have a3 : ((-1074 : Int) - -1075).toNat = 1 := by decide
  have a4 : ((-1074 : Int) - -1074).toNat = 0 := by decide
  rw [a2, a3, a4, Nat.pow_zero, Nat.mul_one, Nat.zero_mul, Nat.zero_add, Nat.min_eq_left (by omega)]
/-- a half, as the reference has it -/
theorem half_word (w : Nat) (hw : w ≤ W2) : double.div w W2 = some (hP w * 4503599627370496 + hM w) ∧ valW (hP w * 4503599627370496 + hM w) = hM w * 2 ^ hP w := by
  have hin := hM_in w
  have hv := val_word (hP w) (hM w) (by omega) hin.2
  refine ⟨?_, hv⟩
  rw [half_rd w hw]
  congr 1
  by_cases h0 : plcW w = 0
  · have hs := small_of_plc h0
    have e1 : hP w = 0 := by unfold hP; omega
    have e2 : hM w = rhe w 1 := by unfold hM; rw [if_pos h0]
    rw [e1, e2, hs.2, h0]
    show double.nearest false w (-1075 + 0) = _
    rw [Int.add_zero, near_sub w hs.1]; omega
  · have e2 : hM w = magW w := by unfold hM; rw [if_neg h0]
    have e1 : (-1075 : Int) + (plcW w : Int) = -1074 + ((hP w : Nat) : Int) := by unfold hP; omega
    rw [e1, near_rd]
    apply val_inj
    rw [hv, e2]
    have hp := plc_two hw
    exact (val_rep (magW w) (hP w) (by have := magW_lt w; omega) (by unfold hP; omega)).1
theorem half_le1 (w : Nat) (hw : w ≤ W2) : hP w * 4503599627370496 + hM w ≤ W1 := by
  obtain ⟨h, h1, h2⟩ := half_le w hw
  rw [(half_word w hw).1] at h2
  injection h2 with h2
  omega
/-- nothing added -/
theorem add0_word (h : Nat) (hh : h ≤ W1) : double.add h 0 = some h := by
  have hw : h < 9218868437227405312 := by unfold W1 at hh; omega
  rw [add_rd h 0 hw (by omega)]
  have h0 : valW 0 = 0 := by decide
  rw [h0, Nat.add_zero]
  congr 1
  apply val_inj
  have h2 := val_mono hh
  rw [val_one] at h2
  have hl : (valW h).log2 ≤ 2000 := by
    obtain ⟨k, hk⟩ : ∃ k, k = 2000 := ⟨_, rfl⟩
    obtain ⟨j, hj⟩ : ∃ j, j = 1074 := ⟨_, rfl⟩
    rw [← hj] at h2
    rw [← hk]
    apply log_le
    exact Nat.lt_of_le_of_lt h2 (Nat.pow_lt_pow_right (by omega) (by omega))
  rw [(val_rd _ hl).1, rd_val]
theorem rhe_add (n c d : Nat) (hc : c % 2 = 0) : rhe (n + c * 2 ^ d) d = rhe n d + c := by
  unfold rhe
  have p : 0 < 2 ^ d := Nat.two_pow_pos _
  rw [Nat.add_mul_div_right _ _ p, Nat.add_mul_mod_self_right]
  generalize n % 2 ^ d = r
  generalize n / 2 ^ d = q
  generalize 2 ^ d = g
  have : (q + c) % 2 = q % 2 := by omega
  rw [this]
  omega
theorem pow52 (K : Nat) : (2 : Nat) ^ (52 + K) = 4503599627370496 * 2 ^ K := by rw [Nat.pow_add]
/-- the rounded sum of a half and one -/
theorem rd_one (K m p : Nat) (hp : p ≤ K) (hle : m * 2 ^ p ≤ 2 ^ (52 + K)) : rdN (m * 2 ^ p + 2 ^ (52 + K)) = (4503599627370496 + rhe m (K - p)) * 2 ^ K := by
  have er : rhe (m * 2 ^ p) K = rhe m (K - p) := by
    have := rhe_scale m (K - p) p
    rwa [show K - p + p = K by omega] at this
  rcases Nat.lt_or_eq_of_le hle with h | h
  · have hlog : (m * 2 ^ p + 2 ^ (52 + K)).log2 = 52 + K := by
      rw [Nat.log2_eq_iff (by have := Nat.two_pow_pos (52 + K); omega), Nat.pow_succ, Nat.mul_two]
      exact ⟨Nat.le_add_left _ _, Nat.add_lt_add_right h _⟩
    unfold rdN
    rw [hlog, show 52 + K - 52 = K by omega, pow52, rhe_add _ _ _ (by decide), er, Nat.add_comm]
  · rw [h] at er ⊢
    have e1 : rhe (2 ^ (52 + K)) K = 4503599627370496 := by rw [pow52, rhe_exact]
    rw [← er, e1]
    have e2 : (2 : Nat) ^ (52 + K) + 2 ^ (52 + K) = 9007199254740992 * 2 ^ K := by rw [pow52, ← Nat.add_mul]
    rw [e2, rdN_rep _ _ (Nat.le_refl _)]
theorem val_one' (K : Nat) (hK : K = 1022) : valW W1 = 2 ^ (52 + K) := by
  have h : 52 + K = 1074 := by omega
  rw [h]; exact val_one
/-- a half and one, as the reference has it -/
theorem add1_word (w : Nat) (hw : w ≤ W2) : double.add (hP w * 4503599627370496 + hM w) W1 = some (1022 * 4503599627370496 + (4503599627370496 + rhe (hM w) (1022 - hP w))) ∧ rhe (hM w) (1022 - hP w) ≤ 4503599627370496 := by
  obtain ⟨K, hK⟩ : ∃ K, K = 1022 := ⟨_, rfl⟩
  have hin := hM_in w
  have hle := half_le1 w hw
  have hv := (half_word w hw).2
  have hval := val_mono hle
  have h1v := val_one' K hK
  rw [hv, h1v] at hval
  have hp : hP w ≤ K := by have := plc_two hw; unfold hP; omega
  have hr := rd_one K (hM w) (hP w) hp hval
  have hq : rhe (hM w) (K - hP w) ≤ 4503599627370496 := by
    have er := rhe_scale (hM w) (K - hP w) (hP w)
    rw [show K - hP w + hP w = K by omega] at er
    rw [← er]
    have := rhe_mono _ _ K hval
    rw [pow52, rhe_exact] at this
    exact this
  have h1 : hP w * 4503599627370496 + hM w < 9218868437227405312 := by unfold W1 at hle; omega
  have hl : (hM w * 2 ^ hP w + 2 ^ (52 + K)).log2 ≤ 2000 := by
    obtain ⟨k, hk⟩ : ∃ k, k = 2000 := ⟨_, rfl⟩
    rw [← hk]
    apply log_le
    have h2 : hM w * 2 ^ hP w + 2 ^ (52 + K) ≤ 2 ^ (52 + K + 1) := by rw [Nat.pow_succ, Nat.mul_two]; exact Nat.add_le_add_right hval _
    exact Nat.lt_of_le_of_lt h2 (Nat.pow_lt_pow_right (by omega) (by omega))
  have hadd := add_rd _ W1 h1 (by unfold W1; omega)
  rw [hv, h1v] at hadd
  have hvr := (val_rd _ hl).1
  rw [hr] at hvr
  have hvw := val_word K (4503599627370496 + rhe (hM w) (K - hP w)) (by omega) (.inl (by omega))
  have hfin := val_inj (hvr.trans hvw.symm)
  rw [hfin] at hadd
  rw [← hK]
  exact ⟨hadd, hq⟩
end Go.Proofs.YthohoendjipleaaGreatDoor
