/-
  Package stat: how many of 1000 deeds were hits. Conditions: the numbers are words.
-/
import Derived.Test.YthohoendjipleaaGreatDoorC
import Derived.Test.YthohoendjipleaaGreatDoorShelf
namespace Go.Proofs.YthohoendjipleaaGreatDoor
open Go.RowKit

/-- the search's one step -/
def stepR (T H k s : Nat) : Nat := if k + s ≤ 1000 ∧ T * (k + s) ≤ 1000 * H then k + s else k
def stepsR : List Nat := [512, 256, 128, 64, 32, 16, 8, 4, 2, 1]
def rateN (T H : Nat) : Nat := stepsR.foldl (stepR T H) 0
/-- what the search keeps -/
def RInv (T H k g : Nat) : Prop := k ≤ 1000 ∧ T * k ≤ 1000 * H ∧ ∀ m, k + g ≤ m → m ≤ 1000 → 1000 * H < T * m
theorem RInv.step {T H k g : Nat} (h : RInv T H k g) (s : Nat) (e : g = s + s) : RInv T H (stepR T H k s) s := by
  subst e
  obtain ⟨h1, h2, h3⟩ := h
  unfold stepR
  split
  · rename_i hf
    exact ⟨hf.1, hf.2, fun m hm hm2 => h3 m (by omega) hm2⟩
  · rename_i hf
    refine ⟨h1, h2, fun m hm hm2 => ?_⟩
    have : 1000 * H < T * (k + s) := by
      by_cases hc : k + s ≤ 1000
      · have := fun h => hf ⟨hc, h⟩
        omega
      · omega
    exact Nat.lt_of_lt_of_le this (Nat.mul_le_mul_left _ hm)
theorem rateN_is (T H : Nat) : rateN T H ≤ 1000 ∧ T * rateN T H ≤ 1000 * H ∧ (rateN T H = 1000 ∨ 1000 * H < T * (rateN T H + 1)) := by
  have h0 : RInv T H 0 1024 := by
    refine ⟨Nat.zero_le _, ?_, fun m hm hm2 => ?_⟩
    · rw [Nat.mul_zero]; exact Nat.zero_le _
    · exfalso; omega
  have h1 := h0.step 512 (by omega)
  have h2 := h1.step 256 (by omega)
  have h3 := h2.step 128 (by omega)
  have h4 := h3.step 64 (by omega)
  have h5 := h4.step 32 (by omega)
  have h6 := h5.step 16 (by omega)
  have h7 := h6.step 8 (by omega)
  have h8 := h7.step 4 (by omega)
  have h9 := h8.step 2 (by omega)
  have h10 := h9.step 1 (by omega)
  have h10 : RInv T H (rateN T H) 1 := by
    unfold rateN stepsR
    simp only [List.foldl_cons, List.foldl_nil]
    exact h10
  refine ⟨h10.1, h10.2.1, ?_⟩
  by_cases e : rateN T H = 1000
  · exact .inl e
  · exact .inr (h10.2.2 _ (Nat.le_refl _) (by have := h10.1; omega))

theorem fits_parts (T H k a b A : Nat) (ha : T % 18446744073709551616 * k / 18446744073709551616 = a) (hb : T % 18446744073709551616 * k % 18446744073709551616 = b) (hA : A = a + T / 18446744073709551616 * k) :
    decide (T * k ≤ 1000 * H) = (decide (A < 1000 * H / 18446744073709551616) || (decide (A = 1000 * H / 18446744073709551616) && decide (b ≤ 1000 * H % 18446744073709551616))) := by
  have e : T * k = A * 18446744073709551616 + b := by
    have h1 : T = T / 18446744073709551616 * 18446744073709551616 + T % 18446744073709551616 := by omega
    have h2 : T % 18446744073709551616 * k = a * 18446744073709551616 + b := by omega
    have h3 : T * k = (T / 18446744073709551616 * 18446744073709551616 + T % 18446744073709551616) * k := by rw [← h1]
    rw [h3, Nat.add_mul, h2, hA, Nat.add_mul, Nat.mul_right_comm]
    omega
  have hb' : b < 18446744073709551616 := by omega
  rw [e]
  generalize 1000 * H = X
  rw [Bool.eq_iff_iff]
  simp only [decide_eq_true_eq, Bool.or_eq_true, Bool.and_eq_true]
  omega
set_option maxHeartbeats 1000000 in
theorem fits_is (T H k : Nat) (hT : T ≤ 92233720368547758075) (hH : H ≤ 18446744073709551615) (hk : k ≤ 1000) (L1 L2 L3 L4 : Nat) (r : Bool) (hr : decide (T * k ≤ 1000 * H) = r) (w : World)
    (k1 : w.cell? ⟨L1, 0, none⟩ = some (.int .u64 ((T % 18446744073709551616 : Nat) : Int))) (k2 : w.cell? ⟨L2, 0, none⟩ = some (.int .u64 ((T / 18446744073709551616 : Nat) : Int)))
    (k3 : w.cell? ⟨L3, 0, none⟩ = some (.int .u64 ((1000 * H / 18446744073709551616 : Nat) : Int))) (k4 : w.cell? ⟨L4, 0, none⟩ = some (.int .u64 ((1000 * H % 18446744073709551616 : Nat) : Int))) :
    Calls Tryz.prog 24 #[.int .i64 k, .pointer (some ⟨L1, 0, none⟩), .pointer (some ⟨L2, 0, none⟩), .pointer (some ⟨L3, 0, none⟩), .pointer (some ⟨L4, 0, none⟩)] w fun e w' => e = .returned (.bool r) ∧ w = w' := by
  have hlo : T % 18446744073709551616 < 18446744073709551616 := by omega
  have hM := fun w => Tryz.bits_Mul64 (T % 18446744073709551616) k hlo (by omega) w
  obtain ⟨a, ha⟩ : ∃ a, T % 18446744073709551616 * k / 18446744073709551616 = a := ⟨_, rfl⟩
  obtain ⟨b, hb⟩ : ∃ b, T % 18446744073709551616 * k % 18446744073709551616 = b := ⟨_, rfl⟩
  have hfp := fun A hA => fits_parts T H k a b A ha hb hA
  have ha1 : a ≤ 1000 := by
    rw [← ha]
    have h1 : T % 18446744073709551616 * k ≤ 18446744073709551616 * 1000 := Nat.mul_le_mul (by omega) hk
    omega
  have hb1 : b < 18446744073709551616 := by omega
  rw [ha, hb] at hM
  obtain ⟨hi, hhi⟩ : ∃ hi, T / 18446744073709551616 = hi := ⟨_, rfl⟩
  have hi4 : hi ≤ 4 := by omega
  obtain ⟨p, hp⟩ : ∃ p, hi * k = p := ⟨_, rfl⟩
  have hp1 : p ≤ 4000 := by
    rw [← hp]
    exact Nat.mul_le_mul hi4 hk
  have hf := hfp (a + p) (by rw [hhi, hp])
  rw [hr] at hf
  have hpi : (hi : Int) * (k : Int) = (p : Int) := by rw [← hp]; simp
  obtain ⟨up, hup⟩ : ∃ up, 1000 * H / 18446744073709551616 = up := ⟨_, rfl⟩
  obtain ⟨dn, hdn⟩ : ∃ dn, 1000 * H % 18446744073709551616 = dn := ⟨_, rfl⟩
  have hup1 : up ≤ 1000 := by omega
  have hdn1 : dn < 18446744073709551616 := by omega
  rw [hup, hdn] at hf
  rw [hhi] at k2
  rw [hup] at k3
  rw [hdn] at k4
  obtain ⟨lo, hlo'⟩ : ∃ lo, T % 18446744073709551616 = lo := ⟨_, rfl⟩
  rw [hlo'] at k1 hM hlo
  have HM := Lib.hid hM
  clear hM hfp ha hb hhi hp hr hup hdn hlo' hT hH
  have hcases : a + p < up ∨ (a + p = up ∧ b ≤ dn) ∨ (a + p = up ∧ dn < b) ∨ up < a + p := by omega
  rcases hcases with hc | ⟨hc, hd⟩ | ⟨hc, hd⟩ | hc
  · obtain rfl : r = true := by rw [hf]; simp [hc]
    clear hf
    have t1 : decide ((a : Int) + (p : Int) < (up : Int)) = true := by simp; omega
    go_enter Tryz.func24, Tryz.ntmps24
    go_wp2_with fail
    refine (HM.out _).mono ?_
    rintro e w1 ⟨rfl, rfl⟩
    go_wp2_with fail
    go_ret
    exact ⟨rfl, rfl⟩
  · obtain rfl : r = true := by rw [hf]; simp; omega
    clear hf
    have t1 : decide (((a : Int) + (p : Int)) < (up : Int)) = false := by simp; omega
    have t2 : (((a : Int) + (p : Int)) == (up : Int)) = true := by simp; omega
    have t3 : decide (b ≤ dn) = true := by simp; omega
    have t4 : decide ((b : Int) ≤ (dn : Int)) = true := by simp; omega
    have t5 : (up : Int) ≤ ((a : Int) + (p : Int)) := by omega
    clear hc
    go_enter Tryz.func24, Tryz.ntmps24
    go_wp2_with fail
    refine (HM.out _).mono ?_
    rintro e w1 ⟨rfl, rfl⟩
    go_wp2_with fail
    go_ret
    exact ⟨rfl, rfl⟩
  · obtain rfl : r = false := by rw [hf]; simp; omega
    clear hf
    have t1 : decide (((a : Int) + (p : Int)) < (up : Int)) = false := by simp; omega
    have t2 : (((a : Int) + (p : Int)) == (up : Int)) = true := by simp; omega
    have t3 : decide (b ≤ dn) = false := by simp; omega
    have t4 : decide ((b : Int) ≤ (dn : Int)) = false := by simp; omega
    have t5 : (up : Int) ≤ ((a : Int) + (p : Int)) := by omega
    clear hc
    go_enter Tryz.func24, Tryz.ntmps24
    go_wp2_with fail
    refine (HM.out _).mono ?_
    rintro e w1 ⟨rfl, rfl⟩
    go_wp2_with fail
    go_ret
    exact ⟨rfl, rfl⟩
  · obtain rfl : r = false := by rw [hf]; simp; omega
    clear hf
    have t1 : decide (((a : Int) + (p : Int)) < (up : Int)) = false := by simp; omega
    have t2 : (((a : Int) + (p : Int)) == (up : Int)) = false := by simp; omega
    have t5 : (up : Int) ≤ ((a : Int) + (p : Int)) := by omega
    clear hc
    go_enter Tryz.func24, Tryz.ntmps24
    go_wp2_with fail
    refine (HM.out _).mono ?_
    rintro e w1 ⟨rfl, rfl⟩
    go_wp2_with fail
    go_ret
    exact ⟨rfl, rfl⟩
end Go.Proofs.YthohoendjipleaaGreatDoor
