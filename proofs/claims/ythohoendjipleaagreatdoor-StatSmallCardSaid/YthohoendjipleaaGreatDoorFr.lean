/-
  Plain facts of the model's floats: rounding to nearest in units of the least number; halves; a sum and what it lacks, exactly. Conditions: finite words.
-/
import Derived.Test.YthohoendjipleaaGreatDoorFs
namespace Go.Proofs.YthohoendjipleaaGreatDoor
open Ieee

/-- n / 2^d to the nearest, ties to even -/
def rhe (n d : Nat) : Nat := n / 2 ^ d + (if 2 ^ d < 2 * (n % 2 ^ d) ∨ (2 ^ d = 2 * (n % 2 ^ d) ∧ n / 2 ^ d % 2 = 1) then 1 else 0)
theorem rhe_zero (n : Nat) : rhe n 0 = n := by
  unfold rhe
  rw [Nat.pow_zero, Nat.div_one, Nat.mod_one, if_neg (by omega)]; rfl
theorem rhe_small (n d : Nat) (h : 2 * n < 2 ^ d) : rhe n d = 0 := by
  unfold rhe
  rw [Nat.div_eq_of_lt (by omega), Nat.mod_eq_of_lt (by omega), if_neg (by omega)]
theorem rhe_le (n d : Nat) : n / 2 ^ d ≤ rhe n d ∧ rhe n d ≤ n / 2 ^ d + 1 := by
  unfold rhe; split <;> omega
theorem rhe_scale (n d t : Nat) : rhe (n * 2 ^ t) (d + t) = rhe n d := by
  unfold rhe
  have p : 0 < 2 ^ t := Nat.two_pow_pos _
  have e1 : n * 2 ^ t / 2 ^ (d + t) = n / 2 ^ d := by rw [Nat.pow_add]; exact Nat.mul_div_mul_right _ _ p
  have e2 : n * 2 ^ t % 2 ^ (d + t) = n % 2 ^ d * 2 ^ t := by rw [Nat.pow_add]; exact Nat.mul_mod_mul_right _ _ _
  rw [e1, e2, Nat.pow_add]
  generalize n % 2 ^ d = r
  generalize n / 2 ^ d = q
  generalize 2 ^ d = g
  have i1 : g * 2 ^ t < 2 * (r * 2 ^ t) ↔ g < 2 * r := by
    rw [← Nat.mul_assoc]; exact Nat.mul_lt_mul_right p
  have i2 : g * 2 ^ t = 2 * (r * 2 ^ t) ↔ g = 2 * r := by
    rw [← Nat.mul_assoc]; exact Nat.mul_left_inj (by omega)
  simp only [i1, i2]
theorem rhe_exact (c d : Nat) : rhe (c * 2 ^ d) d = c := by
  have := rhe_scale c 0 d
  rw [Nat.zero_add, rhe_zero] at this
  exact this
theorem rhe_mono (n n' d : Nat) (h : n ≤ n') : rhe n d ≤ rhe n' d := by
  have h1 := rhe_le n d
  have h2 := rhe_le n' d
  have hq : n / 2 ^ d ≤ n' / 2 ^ d := Nat.div_le_div_right h
  rcases Nat.lt_or_eq_of_le hq with hlt | heq
  · omega
  · have e1 := Nat.div_add_mod n (2 ^ d)
    have e2 := Nat.div_add_mod n' (2 ^ d)
    rw [← heq] at e2
    unfold rhe
    rw [← heq]
    generalize n / 2 ^ d = q at *
    generalize 2 ^ d * q = Q at *
    split <;> split <;> omega
theorem rhe_err (n d : Nat) : 2 * (rhe n d * 2 ^ d) ≤ 2 * n + 2 ^ d ∧ 2 * n ≤ 2 * (rhe n d * 2 ^ d) + 2 ^ d := by
  have e1 := Nat.div_add_mod n (2 ^ d)
  have hm : n % 2 ^ d < 2 ^ d := Nat.mod_lt _ (Nat.two_pow_pos _)
  unfold rhe
  rw [Nat.add_mul, Nat.mul_comm (n / 2 ^ d) (2 ^ d)]
  generalize 2 ^ d * (n / 2 ^ d) = Q at *
  split <;> omega
theorem cut_rhe (neg : Bool) (n d : Nat) : Toward.even.cut neg n d = rhe n d := by
  unfold Toward.cut rhe
  simp only [Nat.shiftLeft_eq, Nat.one_mul]
  by_cases h : d ≤ n.log2 + 2
  · rw [Nat.min_eq_left h]
    congr 1
    generalize n % 2 ^ d = r
    generalize n / 2 ^ d = q
    generalize 2 ^ d = g
    by_cases h1 : g < 2 * r
    · rw [if_pos (.inl h1)]; simp [h1]
    · by_cases h2 : g = 2 * r ∧ q % 2 = 1
      · rw [if_pos (.inr h2)]; simp [h2.1, h2.2]
      · rw [if_neg (by omega)]
        have : (g == 2 * r && q % 2 == 1) = false := by simp; intro h3; omega
        simp [h1, this]
  · rw [Nat.min_eq_right (by omega)]
    have hn : n < 2 ^ (n.log2 + 1) := Nat.lt_log2_self
    have h2 : 2 ^ (n.log2 + 2) = 2 * 2 ^ (n.log2 + 1) := by rw [Nat.pow_succ, Nat.mul_comm]
    have h3 : 2 ^ (n.log2 + 2) ≤ 2 ^ d := Nat.pow_le_pow_right (by omega) (by omega)
    have g1 : n / 2 ^ (n.log2 + 2) = 0 := Nat.div_eq_of_lt (by omega)
    have g2 : n % 2 ^ (n.log2 + 2) = n := Nat.mod_eq_of_lt (by omega)
    have g3 : n / 2 ^ d = 0 := Nat.div_eq_of_lt (by omega)
    have g4 : n % 2 ^ d = n := Nat.mod_eq_of_lt (by omega)
    rw [g1, g2, g3, g4, if_neg (by omega)]
    have h4 : decide (2 ^ (n.log2 + 2) < 2 * n) = false := by simp; omega
    have h5 : (2 ^ (n.log2 + 2) == 2 * n) = false := by simp; omega
    rw [h4, h5]; rfl
/-- the scale does not matter -/
theorem near_scale (mag t : Nat) (place : Int) (hm : mag ≠ 0) : double.nearest false (mag * 2 ^ t) place = double.nearest false mag (place + t) := by
  have hp : 0 < 2 ^ t := Nat.two_pow_pos _
  have hmt : mag * 2 ^ t ≠ 0 := by have := Nat.mul_ne_zero hm (Nat.pos_iff_ne_zero.1 hp); exact this
  have hlog : (mag * 2 ^ t).log2 = mag.log2 + t := by
    rw [Nat.log2_eq_iff hmt, Nat.pow_add, show mag.log2 + t + 1 = (mag.log2 + 1) + t by omega, Nat.pow_add]
    have h1 : 2 ^ mag.log2 ≤ mag := Nat.log2_self_le hm
    have h2 : mag < 2 ^ (mag.log2 + 1) := Nat.lt_log2_self
    exact ⟨Nat.mul_le_mul_right _ h1, Nat.mul_lt_mul_of_pos_right h2 hp⟩
  unfold Format.nearest
  rw [if_neg hmt, if_neg hm]
  simp only [hlog, cut_rhe, Nat.shiftLeft_eq]
  have hl : place + ((mag.log2 + t : Nat) : Int) - (double.fractionBits : Int) = place + (t : Int) + (mag.log2 : Int) - (double.fractionBits : Int) := by omega
  rw [hl]
  generalize max (place + (t : Int) + (mag.log2 : Int) - (double.fractionBits : Int)) double.leastPlace = last
  congr 3
  by_cases h1 : place + t ≤ last
  · have a1 : (place - last).toNat = 0 := by omega
    have a2 : (place + (t : Int) - last).toNat = 0 := by omega
    have a3 : (last - place).toNat = (last - (place + t)).toNat + t := by omega
    rw [a1, a2, a3, Nat.pow_zero, Nat.mul_one, Nat.mul_one, rhe_scale]
  · by_cases h2 : place ≤ last
    · have a1 : (place - last).toNat = 0 := by omega
      have a2 : (last - (place + (t : Int))).toNat = 0 := by omega
      obtain ⟨s, hs⟩ : ∃ s : Nat, (place + (t : Int) - last).toNat = s := ⟨_, rfl⟩
      have a3 : t = s + (last - place).toNat := by omega
      rw [a1, a2, hs, rhe_zero, Nat.pow_zero, Nat.mul_one]
      generalize (last - place).toNat = u at *
      subst a3
      rw [Nat.pow_add, ← Nat.mul_assoc, rhe_exact]
    · have a1 : (last - place).toNat = 0 := by omega
      have a2 : (last - (place + (t : Int))).toNat = 0 := by omega
      have a3 : (place + (t : Int) - last).toNat = t + (place - last).toNat := by omega
      rw [a1, a2, a3, rhe_zero, rhe_zero, Nat.mul_assoc, ← Nat.pow_add]

/-- the word nearest to N units of the least number; its value -/
def rdW (N : Nat) : Nat := double.nearest false N (-1074)
def rdN (N : Nat) : Nat := rhe N (N.log2 - 52) * 2 ^ (N.log2 - 52)
theorem near_rd (m p : Nat) : double.nearest false m (-1074 + (p : Int)) = rdW (m * 2 ^ p) := by
  by_cases h : m = 0
  · subst h; simp [rdW, Format.nearest]
  · unfold rdW; rw [near_scale m p (-1074) h]
theorem rdW_zero : rdW 0 = 0 := by simp [rdW, Format.nearest, Format.word]
theorem rdW_eq (N : Nat) (h : N ≠ 0) : rdW N = min ((N.log2 - 52) * 4503599627370496 + rhe N (N.log2 - 52)) 9218868437227405312 := by
  unfold rdW Format.nearest
  rw [if_neg h]
  simp only [frac_eq, least_eq, binade_eq, inf_eq, Format.word, Bool.false_eq_true, if_false, cut_rhe, Nat.shiftLeft_eq]
  generalize N.log2 = L
  have a1 : max (-1074 + (L : Int) - (52 : Nat)) (-1074) = -1074 + ((L - 52 : Nat) : Int) := by omega
  rw [a1]
  have a2 : (-1074 - (-1074 + ((L - 52 : Nat) : Int))).toNat = 0 := by omega
  have a3 : (-1074 + ((L - 52 : Nat) : Int) - -1074).toNat = L - 52 := by omega
  rw [a2, a3, Nat.pow_zero, Nat.mul_one]
theorem rhe_top (N : Nat) (h : N ≠ 0) (hL : 52 ≤ N.log2) : 4503599627370496 ≤ rhe N (N.log2 - 52) ∧ rhe N (N.log2 - 52) ≤ 9007199254740992 := by
  have h1 : 2 ^ N.log2 ≤ N := Nat.log2_self_le h
  have h2 : N < 2 ^ (N.log2 + 1) := Nat.lt_log2_self
  have e1 : 2 ^ N.log2 = 4503599627370496 * 2 ^ (N.log2 - 52) := by
    rw [show (4503599627370496 : Nat) = 2 ^ 52 from rfl, ← Nat.pow_add]; congr 1; omega
  have e2 : 2 ^ (N.log2 + 1) = 9007199254740992 * 2 ^ (N.log2 - 52) := by
    rw [show (9007199254740992 : Nat) = 2 ^ 53 from rfl, ← Nat.pow_add]; congr 1; omega
  have p : 0 < 2 ^ (N.log2 - 52) := Nat.two_pow_pos _
  have q1 : 4503599627370496 ≤ N / 2 ^ (N.log2 - 52) := (Nat.le_div_iff_mul_le p).2 (by omega)
  have q2 : N / 2 ^ (N.log2 - 52) < 9007199254740992 := (Nat.div_lt_iff_lt_mul p).2 (by omega)
  have := rhe_le N (N.log2 - 52)
  omega
theorem log_small (N : Nat) (h : N.log2 < 52) : N < 4503599627370496 := by
  have h2 : N < 2 ^ (N.log2 + 1) := Nat.lt_log2_self
  have : 2 ^ (N.log2 + 1) ≤ 2 ^ 52 := Nat.pow_le_pow_right (by omega) (by omega)
  omega
/-- a word of its exponent and its digits -/
theorem val_word (l c : Nat) (hc : c ≤ 9007199254740992) (h : 4503599627370496 ≤ c ∨ l = 0) : valW (l * 4503599627370496 + c) = c * 2 ^ l := by
  unfold valW magW plcW
  by_cases h0 : l * 4503599627370496 + c < 4503599627370496
  · obtain rfl : l = 0 := by
      rcases Nat.eq_zero_or_pos l with h1 | h1
      · exact h1
      · have : 1 * 4503599627370496 ≤ l * 4503599627370496 := Nat.mul_le_mul_right _ h1
        omega
    simp only [Nat.zero_mul, Nat.zero_add] at h0 ⊢
    rw [if_pos h0, if_pos h0]
  · rw [if_neg h0, if_neg h0]
    have hc1 : 4503599627370496 ≤ c := by
      rcases h with h | rfl
      · exact h
      · omega
    by_cases h2 : c = 9007199254740992
    · subst h2
      have a1 : (l * 4503599627370496 + 9007199254740992) % 4503599627370496 = 0 := by omega
      have a2 : (l * 4503599627370496 + 9007199254740992) / 4503599627370496 - 1 = l + 1 := by omega
      rw [a1, a2, Nat.pow_succ]
      generalize 2 ^ l = P
      omega
    · have a1 : (l * 4503599627370496 + c) % 4503599627370496 = c - 4503599627370496 := by omega
      have a2 : (l * 4503599627370496 + c) / 4503599627370496 - 1 = l := by omega
      rw [a1, a2, Nat.add_sub_cancel' hc1]
theorem val_rd (N : Nat) (h : N.log2 ≤ 2000) : valW (rdW N) = rdN N ∧ rdW N < 9218868437227405312 := by
  by_cases h0 : N = 0
  · subst h0; rw [rdW_zero]; exact ⟨by simp [rdN, rhe, valW, magW], by omega⟩
  rw [rdW_eq N h0]
  by_cases hL : 52 ≤ N.log2
  · have ht := rhe_top N h0 hL
    have hm : (N.log2 - 52) * 4503599627370496 + rhe N (N.log2 - 52) < 9218868437227405312 := by
      have : (N.log2 - 52) * 4503599627370496 ≤ 1948 * 4503599627370496 := Nat.mul_le_mul_right _ (by omega)
      omega
    rw [Nat.min_eq_left (by omega)]
    exact ⟨val_word _ _ ht.2 (.inl ht.1), hm⟩
  · have h1 := log_small N (by omega)
    have e0 : N.log2 - 52 = 0 := by omega
    rw [e0, rhe_zero, Nat.min_eq_left (by omega)]
    refine ⟨?_, by omega⟩
    unfold rdN
    rw [e0, rhe_zero]
    exact val_word 0 N (by omega) (.inr rfl)
theorem rdN_rep (c l : Nat) (hc : c ≤ 9007199254740992) : rdN (c * 2 ^ l) = c * 2 ^ l := by
  have key : ∀ c l, c < 9007199254740992 → rdN (c * 2 ^ l) = c * 2 ^ l := fun c l hc => by
    by_cases h0 : c = 0
    · subst h0; simp [rdN, rhe]
    have hp : 0 < 2 ^ l := Nat.two_pow_pos _
    have hn : c * 2 ^ l ≠ 0 := Nat.mul_ne_zero h0 (by omega)
    have hlog : (c * 2 ^ l).log2 = c.log2 + l := by
      rw [Nat.log2_eq_iff hn, Nat.pow_add, show c.log2 + l + 1 = (c.log2 + 1) + l by omega, Nat.pow_add]
      exact ⟨Nat.mul_le_mul_right _ (Nat.log2_self_le h0), Nat.mul_lt_mul_of_pos_right Nat.lt_log2_self hp⟩
    have hc2 : c.log2 < 53 := (Nat.log2_lt h0).2 hc
    unfold rdN
    rw [hlog]
    obtain ⟨d, hd⟩ : ∃ d, c.log2 + l - 52 = d := ⟨_, rfl⟩
    rw [hd]
    have hdl : d ≤ l := by omega
    have e : c * 2 ^ l = c * 2 ^ (l - d) * 2 ^ d := by rw [Nat.mul_assoc, ← Nat.pow_add]; congr 2; omega
    rw [e, rhe_exact]
  rcases Nat.lt_or_eq_of_le hc with h | h
  · exact key c l h
  · subst h
    have e : 9007199254740992 * 2 ^ l = 4503599627370496 * 2 ^ (l + 1) := by rw [Nat.pow_succ]; omega
    rw [e]
    exact key _ _ (by omega)
theorem rdN_mono (N M : Nat) (h : N ≤ M) : rdN N ≤ rdN M := by
  by_cases hN : N = 0
  · subst hN; simp [rdN, rhe]
  have hM : M ≠ 0 := by omega
  have hl : N.log2 ≤ M.log2 := by
    rcases Nat.lt_or_ge M.log2 N.log2 with h1 | h1
    · have a1 : M < 2 ^ (M.log2 + 1) := Nat.lt_log2_self
      have a2 : 2 ^ N.log2 ≤ N := Nat.log2_self_le hN
      have a3 : 2 ^ (M.log2 + 1) ≤ 2 ^ N.log2 := Nat.pow_le_pow_right (by omega) (by omega)
      omega
    · exact h1
  rcases Nat.eq_or_lt_of_le hl with heq | hlt
  · unfold rdN
    rw [← heq]
    exact Nat.mul_le_mul_right _ (rhe_mono _ _ _ h)
  · have up : rdN N ≤ 2 ^ (N.log2 + 1) := by
      unfold rdN
      by_cases h52 : 52 ≤ N.log2
      · have ht := (rhe_top N hN h52).2
        have e2 : 2 ^ (N.log2 + 1) = 9007199254740992 * 2 ^ (N.log2 - 52) := by
          rw [show (9007199254740992 : Nat) = 2 ^ 53 from rfl, ← Nat.pow_add]; congr 1; omega
        rw [e2]; exact Nat.mul_le_mul_right _ ht
      · rw [show N.log2 - 52 = 0 by omega, rhe_zero, Nat.pow_zero, Nat.mul_one]
        exact Nat.le_of_lt Nat.lt_log2_self
    have lo : 2 ^ M.log2 ≤ rdN M := by
      unfold rdN
      by_cases h52 : 52 ≤ M.log2
      · have ht := (rhe_top M hM h52).1
        have e1 : 2 ^ M.log2 = 4503599627370496 * 2 ^ (M.log2 - 52) := by
          rw [show (4503599627370496 : Nat) = 2 ^ 52 from rfl, ← Nat.pow_add]; congr 1; omega
        rw [e1]; exact Nat.mul_le_mul_right _ ht
      · rw [show M.log2 - 52 = 0 by omega, rhe_zero, Nat.pow_zero, Nat.mul_one]
        exact Nat.log2_self_le hM
    have : 2 ^ (N.log2 + 1) ≤ 2 ^ M.log2 := Nat.pow_le_pow_right (by omega) (by omega)
    omega
/-- a word is the nearest one to its value -/
theorem val_inj {w v : Nat} (h : valW w = valW v) : w = v := by
  rcases Nat.lt_trichotomy w v with h1 | h1 | h1
  · have := valW_lt h1; omega
  · exact h1
  · have := valW_lt h1; omega
end Go.Proofs.YthohoendjipleaaGreatDoor
