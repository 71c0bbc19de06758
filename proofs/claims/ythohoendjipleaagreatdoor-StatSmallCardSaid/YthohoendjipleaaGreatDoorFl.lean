/-
  Plain facts of the model's floats: positive words, their order, a half, a sum. Conditions: none.
-/
import Derived.Laws.FloatBits
import Derived.KernelRfl
namespace Go.Proofs.YthohoendjipleaaGreatDoor
open Ieee

/-- the words of 1 and of 2 -/
def W1 : Nat := 4607182418800017408
def W2 : Nat := 4611686018427387904
def magW (w : Nat) : Nat := if w < 4503599627370496 then w else 4503599627370496 + w % 4503599627370496
def plcW (w : Nat) : Nat := if w < 4503599627370496 then 0 else w / 4503599627370496 - 1
def valW (w : Nat) : Nat := magW w * 2 ^ plcW w

theorem binade_eq : double.binade = 4503599627370496 := by decide
theorem inf_eq : double.infRung = 9218868437227405312 := by decide
theorem sw_eq : double.signWeight = 9223372036854775808 := by decide
theorem least_eq : double.leastPlace = -1074 := by decide
theorem frac_eq : double.fractionBits = 52 := rfl

theorem read_pos (w : Nat) (h : w < 9218868437227405312) : double.read w = .number false (magW w) (-1074 + (plcW w : Int)) := by
  unfold Format.read
  simp only [sw_eq, binade_eq, inf_eq, least_eq]
  have h1 : w / 9223372036854775808 = 0 := by omega
  have h2 : w % 9223372036854775808 = w := Nat.mod_eq_of_lt (by omega)
  rw [h1, h2]
  unfold magW plcW
  by_cases h3 : w < 4503599627370496
  · simp [h3]
  · simp [h3, h]

theorem magW_lt (w : Nat) : magW w < 9007199254740992 := by
  unfold magW; split <;> omega
theorem plcW_le (w k : Nat) (h : w < k * 4503599627370496) (hk : 2 ≤ k) : plcW w ≤ k - 2 := by
  unfold plcW
  split
  · omega
  · have : w / 4503599627370496 < k := Nat.div_lt_of_lt_mul (by rw [Nat.mul_comm]; exact h)
    omega

theorem valW_lt {w v : Nat} (h : w < v) : valW w < valW v := by
  unfold valW magW plcW
  by_cases hv : v < 4503599627370496
  · have hw : w < 4503599627370496 := by omega
    simp [hv, hw]; exact h
  · by_cases hw : w < 4503599627370496
    · simp only [hv, hw, if_true, if_false, Nat.pow_zero, Nat.mul_one]
      have : 1 ≤ 2 ^ (v / 4503599627370496 - 1) := Nat.one_le_two_pow
      calc w < 4503599627370496 := hw
        _ ≤ (4503599627370496 + v % 4503599627370496) * 1 := by omega
        _ ≤ _ := Nat.mul_le_mul_left _ this
    · simp only [hv, hw, if_false]
      obtain ⟨q, hq⟩ : ∃ q, w / 4503599627370496 = q := ⟨_, rfl⟩
      obtain ⟨r, hr⟩ : ∃ r, v / 4503599627370496 = r := ⟨_, rfl⟩
      rw [hq, hr]
      have q1 : 1 ≤ q := by omega
      by_cases hqr : q = r
      · subst hqr
        exact Nat.mul_lt_mul_of_pos_right (by omega) (Nat.two_pow_pos _)
      · have hlt : q < r := by omega
        have e : 2 ^ (r - 1) = 2 ^ (q - 1) * 2 ^ (r - q) := by rw [← Nat.pow_add]; congr 1; omega
        have e2 : 2 ≤ 2 ^ (r - q) := by
          calc 2 = 2 ^ 1 := rfl
            _ ≤ _ := Nat.pow_le_pow_right (by omega) (by omega)
        rw [e]
        have p0 : 0 < 2 ^ (q - 1) := Nat.two_pow_pos _
        calc (4503599627370496 + w % 4503599627370496) * 2 ^ (q - 1) < 9007199254740992 * 2 ^ (q - 1) := Nat.mul_lt_mul_of_pos_right (by omega) p0
          _ = 4503599627370496 * (2 ^ (q - 1) * 2) := by rw [Nat.mul_comm (2 ^ (q - 1)) 2, ← Nat.mul_assoc]
          _ ≤ 4503599627370496 * (2 ^ (q - 1) * 2 ^ (r - q)) := Nat.mul_le_mul_left _ (Nat.mul_le_mul_left _ e2)
          _ ≤ _ := Nat.mul_le_mul_right _ (by omega)

theorem cmp_lt {a b : Int} (h : a < b) : compare a b = .lt := by simp [compare, compareOfLessAndEq, h]
theorem cmp_gt {a b : Int} (h : b < a) : compare a b = .gt := by
  have h1 : ¬ a < b := by omega
  have h2 : ¬ a = b := by omega
  simp [compare, compareOfLessAndEq, h1, h2]
theorem shl_cast (m s : Nat) : ((m <<< s : Nat) : Int) = ((m * 2 ^ s : Nat) : Int) := by rw [Nat.shiftLeft_eq]
theorem order_pos (w v : Nat) (hw : w < 9218868437227405312) (hv : v < 9218868437227405312) : double.order w v = some (compare w v) := by
  unfold Format.order
  rw [read_pos w hw, read_pos v hv]
  simp only [Datum.order, signed, Bool.false_eq_true, if_false]
  obtain ⟨p, hp⟩ : ∃ p, plcW w = p := ⟨_, rfl⟩
  obtain ⟨q, hq⟩ : ∃ q, plcW v = q := ⟨_, rfl⟩
  have b1 : (-1074 + (p : Int) - min (-1074 + (p : Int)) (-1074 + (q : Int))).toNat = p - min p q := by omega
  have b2 : (-1074 + (q : Int) - min (-1074 + (p : Int)) (-1074 + (q : Int))).toNat = q - min p q := by omega
  rw [hp, hq, b1, b2, shl_cast, shl_cast]
  have ew : valW w = magW w * 2 ^ (p - min p q) * 2 ^ (min p q) := by
    unfold valW; rw [hp, Nat.mul_assoc, ← Nat.pow_add]; congr 2; omega
  have ev : valW v = magW v * 2 ^ (q - min p q) * 2 ^ (min p q) := by
    unfold valW; rw [hq, Nat.mul_assoc, ← Nat.pow_add]; congr 2; omega
  have p0 : 0 < 2 ^ (min p q) := Nat.two_pow_pos _
  congr 1
  rcases Nat.lt_trichotomy w v with h | h | h
  · have h1 := valW_lt h
    rw [ew, ev] at h1
    have h2 := Nat.lt_of_mul_lt_mul_right h1
    rw [Nat.compare_eq_lt.2 h]
    exact cmp_lt (by exact_mod_cast h2)
  · subst h
    have : p = q := hp.symm.trans hq
    subst this
    simp
  · have h1 := valW_lt h
    rw [ew, ev] at h1
    have h2 := Nat.lt_of_mul_lt_mul_right h1
    rw [Nat.compare_eq_gt.2 h]
    exact cmp_gt (by exact_mod_cast h2)

theorem toNat_le (b : Bool) : b.toNat ≤ 1 := by cases b <;> simp
theorem cut_le (n d k : Nat) (hb : n < 2 ^ (k + d)) : Toward.even.cut false n d ≤ 2 ^ k := by
  unfold Toward.cut
  simp only
  have hq : n / (1 <<< min d (n.log2 + 2)) < 2 ^ k := by
    rw [Nat.shiftLeft_eq, Nat.one_mul]
    apply Nat.div_lt_of_lt_mul
    by_cases hmin : d ≤ n.log2 + 2
    · rw [Nat.min_eq_left hmin, ← Nat.pow_add, Nat.add_comm d k]
      exact hb
    · rw [Nat.min_eq_right (by omega)]
      have h1 : n < 2 ^ (n.log2 + 1) := Nat.lt_log2_self
      have h2 : 2 ^ (n.log2 + 1) ≤ 2 ^ (n.log2 + 2) := Nat.pow_le_pow_right (by omega) (by omega)
      have h3 : 1 ≤ 2 ^ k := Nat.one_le_two_pow
      have h4 : 2 ^ (n.log2 + 2) * 1 ≤ 2 ^ (n.log2 + 2) * 2 ^ k := Nat.mul_le_mul_left _ h3
      omega
  have := toNat_le (decide (1 <<< min d (n.log2 + 2) < 2 * (n % 1 <<< min d (n.log2 + 2))) || (1 <<< min d (n.log2 + 2) == 2 * (n % 1 <<< min d (n.log2 + 2)) && n / 1 <<< min d (n.log2 + 2) % 2 == 1))
  omega
theorem kept_le (mag L : Nat) (place last : Int) (hmL : mag < 2 ^ (L + 1)) (h : place + (L : Int) - 52 ≤ last) : Toward.even.cut false (mag <<< (place - last).toNat) (last - place).toNat ≤ 2 ^ 53 := by
  apply cut_le
  rw [Nat.shiftLeft_eq]
  have h1 : mag * 2 ^ (place - last).toNat < 2 ^ (L + 1) * 2 ^ (place - last).toNat := Nat.mul_lt_mul_of_pos_right hmL (Nat.two_pow_pos _)
  rw [← Nat.pow_add] at h1
  exact Nat.lt_of_lt_of_le h1 (Nat.pow_le_pow_right (by omega) (by omega))
/-- what is written of a small number is small -/
theorem near_le (mag : Nat) (place : Int) (E X : Nat) (hE : 1 ≤ E) (hm : mag < 2 ^ X) (hX : (X : Int) + place + 1074 ≤ E + 52) : double.nearest false mag place ≤ (E + 1) * 4503599627370496 := by
  unfold Format.nearest
  by_cases h0 : mag = 0
  · rw [if_pos h0]; simp [Format.word]
  rw [if_neg h0]
  simp only [frac_eq, least_eq, binade_eq, inf_eq, Format.word, Bool.false_eq_true, if_false]
  have hLX : mag.log2 < X := (Nat.log2_lt h0).2 hm
  have hmL : mag < 2 ^ (mag.log2 + 1) := Nat.lt_log2_self
  generalize mag.log2 = L at *
  have hle : place + (L : Int) - 52 ≤ max (place + (L : Int) - (52 : Nat)) (-1074) := by omega
  have hk := kept_le mag L place _ hmL hle
  generalize Toward.even.cut false (mag <<< (place - max (place + (L : Int) - (52 : Nat)) (-1074)).toNat) (max (place + (L : Int) - (52 : Nat)) (-1074) - place).toNat = K at *
  have hl : (max (place + (L : Int) - (52 : Nat)) (-1074) - -1074).toNat ≤ E - 1 := by omega
  have hk2 : K ≤ 2 * 4503599627370496 := hk
  clear hk
  generalize (max (place + (L : Int) - (52 : Nat)) (-1074) - -1074).toNat = M at *
  generalize (4503599627370496 : Nat) = B at *
  have h2 : M * B ≤ (E - 1) * B := Nat.mul_le_mul_right _ hl
  have h3 : (E - 1) * B + 2 * B = (E + 1) * B := by
    rw [← Nat.add_mul, show E - 1 + 2 = E + 1 by omega]
  exact Nat.le_trans (Nat.min_le_left _ _) (by omega)

theorem sum_pos (w v : Nat) (hw : w < 9218868437227405312) (hv : v < 9218868437227405312) :
    double.add w v = some (double.nearest false (magW w * 2 ^ (plcW w - min (plcW w) (plcW v)) + magW v * 2 ^ (plcW v - min (plcW w) (plcW v))) (-1074 + (min (plcW w) (plcW v) : Nat))) := by
  unfold Format.add
  rw [read_pos w hw, read_pos v hv]
  simp only [Datum.sum, signed, Bool.false_eq_true, if_false, Option.map_some, Format.write]
  generalize plcW w = p at *
  generalize plcW v = q at *
  generalize magW w = m at *
  generalize magW v = n at *
  have b1 : (-1074 + (p : Int) - min (-1074 + (p : Int)) (-1074 + (q : Int))).toNat = p - min p q := by omega
  have b2 : (-1074 + (q : Int) - min (-1074 + (p : Int)) (-1074 + (q : Int))).toNat = q - min p q := by omega
  have b3 : min (-1074 + (p : Int)) (-1074 + (q : Int)) = -1074 + (min p q : Nat) := by omega
  rw [b1, b2, b3, shl_cast, shl_cast]
  have e : ((m * 2 ^ (p - min p q) : Nat) : Int) + ((n * 2 ^ (q - min p q) : Nat) : Int) = ((m * 2 ^ (p - min p q) + n * 2 ^ (q - min p q) : Nat) : Int) := by omega
  rw [e]
  generalize m * 2 ^ (p - min p q) + n * 2 ^ (q - min p q) = T at *
  have h1 : ¬ (T : Int) < 0 := by omega
  simp only [h1, decide_false, Bool.and_self, ite_self, Int.natAbs_natCast]

theorem half_le (w : Nat) (hw : w ≤ W2) : ∃ h, h ≤ W1 ∧ double.div w W2 = some h := by
  by_cases he : w = W2
  · subst he
    exact ⟨W1, Nat.le_refl _, by kernel_rfl⟩
  have hlt : w < 1024 * 4503599627370496 := by unfold W2 at *; omega
  have hp : plcW w ≤ 1022 := plcW_le w 1024 hlt (by omega)
  have hm := magW_lt w
  have hr2 : double.read W2 = .number false 4503599627370496 (-51) := by kernel_rfl
  unfold Format.div
  rw [read_pos w (by omega), hr2]
  simp only [Datum.quotient, frac_eq, Option.map_some, Format.write, Bool.false_bne, Nat.reduceEqDiff, if_false]
  refine ⟨_, ?_, rfl⟩
  have e52 : Nat.log2 4503599627370496 = 52 := by decide
  rw [e52]
  generalize hmore : 52 + 2 + 52 - (magW w).log2 = more
  have hb : 2 * (magW w <<< more / 4503599627370496) + (magW w <<< more % 4503599627370496 != 0).toNat < 2 ^ (more + 2) := by
    have h1 : magW w <<< more / 4503599627370496 < 2 * 2 ^ more := by
      rw [Nat.shiftLeft_eq]
      apply Nat.div_lt_of_lt_mul
      have := Nat.mul_lt_mul_of_pos_right hm (Nat.two_pow_pos more)
      omega
    have h2 := toNat_le (magW w <<< more % 4503599627370496 != 0)
    have h3 : 2 ^ (more + 2) = 4 * 2 ^ more := by rw [Nat.pow_add, Nat.mul_comm]
    omega
  exact near_le _ _ 1022 (more + 2) (by omega) hb (by omega)

theorem add0_le (h : Nat) (hh : h ≤ W1) : ∃ x, x ≤ W1 ∧ double.add h 0 = some x := by
  by_cases he : h = W1
  · subst he
    exact ⟨W1, Nat.le_refl _, by kernel_rfl⟩
  have hlt : h < W1 := by omega
  have hlt2 : h < 9218868437227405312 := by unfold W1 at hlt; omega
  rw [sum_pos h 0 hlt2 (by omega)]
  refine ⟨_, ?_, rfl⟩
  have hv := valW_lt hlt
  have e1 : valW W1 = 2 ^ 1074 := by kernel_rfl
  have e0 : magW 0 = 0 := by decide
  have e2 : plcW 0 = 0 := by decide
  rw [e1] at hv
  rw [e0, e2]
  unfold valW at hv
  simp only [Nat.min_zero, Nat.sub_zero, Nat.zero_mul, Nat.add_zero]
  exact near_le _ _ 1022 1074 (by omega) hv (by omega)
theorem add1_le (h : Nat) (hh : h ≤ W1) : ∃ x, x ≤ W2 ∧ double.add h W1 = some x := by
  by_cases he : h = W1
  · subst he
    exact ⟨W2, Nat.le_refl _, by kernel_rfl⟩
  have hlt : h < 1023 * 4503599627370496 := by unfold W1 at *; omega
  have hp : plcW h ≤ 1021 := plcW_le h 1023 hlt (by omega)
  have hm := magW_lt h
  rw [sum_pos h W1 (by omega) (by unfold W1; omega)]
  refine ⟨_, ?_, rfl⟩
  have e0 : magW W1 = 2 ^ 52 := by decide
  have e2 : plcW W1 = 1022 := by decide
  rw [e0, e2]
  generalize plcW h = p at *
  generalize magW h = m at *
  rw [Nat.min_eq_left (by omega : p ≤ 1022), Nat.sub_self, Nat.pow_zero, Nat.mul_one, ← Nat.pow_add]
  refine near_le _ _ 1023 (1075 - p) (by omega) ?_ (by omega)
  have h1 : 2 ^ (52 + (1022 - p)) = 2 ^ (1074 - p) := by congr 1; omega
  have h2 : 2 ^ (1075 - p) = 2 * 2 ^ (1074 - p) := by
    rw [show 1075 - p = 1074 - p + 1 by omega, Nat.pow_succ, Nat.mul_comm]
  have h3 : 2 ^ 53 ≤ 2 ^ (1074 - p) := Nat.pow_le_pow_right (by omega) (by omega)
  have h4 : m < 2 ^ 53 := hm
  omega
end Go.Proofs.YthohoendjipleaaGreatDoor
