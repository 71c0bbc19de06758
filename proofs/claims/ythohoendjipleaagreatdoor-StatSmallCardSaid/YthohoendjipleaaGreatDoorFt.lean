/-
  Plain facts of the model's floats: a sum of two positive words and what it lacks are exact. Conditions: words up to that of 2.
-/
import Derived.Test.YthohoendjipleaaGreatDoorFr
namespace Go.Proofs.YthohoendjipleaaGreatDoor
open Ieee

theorem mag_ge (w : Nat) (h : 0 < plcW w) : 4503599627370496 ≤ magW w := by
  unfold plcW at h
  unfold magW
  split at h
  · omega
  · next h1 => rw [if_neg h1]; omega
theorem plc_mono {w v : Nat} (h : w ≤ v) : plcW w ≤ plcW v := by
  unfold plcW
  split
  · omega
  · rw [if_neg (by omega)]
    have : w / 4503599627370496 ≤ v / 4503599627370496 := Nat.div_le_div_right h
    omega
theorem val_mono {w v : Nat} (h : w ≤ v) : valW w ≤ valW v := by
  rcases Nat.lt_or_eq_of_le h with h1 | h1
  · exact Nat.le_of_lt (valW_lt h1)
  · subst h1; exact Nat.le_refl _
theorem val_two : valW W2 = 2 ^ 1075 := by kernel_rfl
theorem val_one : valW W1 = 2 ^ 1074 := by kernel_rfl
theorem val_le2 {w : Nat} (h : w ≤ W2) : valW w ≤ 2 ^ 1075 := by rw [← val_two]; exact val_mono h
theorem log_le {N k : Nat} (h : N < 2 ^ (k + 1)) : N.log2 ≤ k := by
  by_cases h0 : N = 0
  · subst h0; simp
  · have := (Nat.log2_lt h0).2 h; omega
theorem val_up (p q m n : Nat) : (m * 2 ^ (p - min p q) + n * 2 ^ (q - min p q)) * 2 ^ min p q = m * 2 ^ p + n * 2 ^ q := by
  rw [Nat.add_mul, Nat.mul_assoc, Nat.mul_assoc, ← Nat.pow_add, ← Nat.pow_add]
  congr 3 <;> omega
theorem add_rd (w v : Nat) (hw : w < 9218868437227405312) (hv : v < 9218868437227405312) : double.add w v = some (rdW (valW w + valW v)) := by
  rw [sum_pos w v hw hv, near_rd, val_up]; rfl
theorem sub_rd (w v : Nat) (hw : w < 9218868437227405312) (hv : v < 9218868437227405312) :
    double.sub w v = some (if valW w < valW v then 9223372036854775808 + rdW (valW v - valW w) else rdW (valW w - valW v)) := by
  unfold Format.sub
  rw [read_pos w hw, read_pos v hv]
  simp only [Datum.opposite, Datum.sum, signed, Bool.not_false, Bool.false_eq_true, if_false, if_true, Option.map_some, Format.write]
  have ew : valW w = magW w * 2 ^ plcW w := rfl
  have ev : valW v = magW v * 2 ^ plcW v := rfl
  generalize plcW w = p at *
  generalize plcW v = q at *
  generalize magW w = m at *
  generalize magW v = n at *
  have b1 : (-1074 + (p : Int) - min (-1074 + (p : Int)) (-1074 + (q : Int))).toNat = p - min p q := by omega
  have b2 : (-1074 + (q : Int) - min (-1074 + (p : Int)) (-1074 + (q : Int))).toNat = q - min p q := by omega
  have b3 : min (-1074 + (p : Int)) (-1074 + (q : Int)) = -1074 + (min p q : Nat) := by omega
  rw [b1, b2, b3, shl_cast, shl_cast]
  have e1 : valW w = m * 2 ^ (p - min p q) * 2 ^ min p q := by rw [ew, Nat.mul_assoc, ← Nat.pow_add]; congr 2; omega
  have e2 : valW v = n * 2 ^ (q - min p q) * 2 ^ min p q := by rw [ev, Nat.mul_assoc, ← Nat.pow_add]; congr 2; omega
  generalize valW w = x at *
  generalize valW v = y at *
  generalize m * 2 ^ (p - min p q) = X at *
  generalize n * 2 ^ (q - min p q) = Y at *
  have hp : 0 < 2 ^ min p q := Nat.two_pow_pos _
  have hiff : x < y ↔ X < Y := by rw [e1, e2]; exact Nat.mul_lt_mul_right hp
  congr 1
  by_cases hlt : X < Y
  · rw [if_pos (hiff.2 hlt)]
    have t1 : ¬ ((X : Int) + -(Y : Int) = 0) := by omega
    have t2 : decide ((X : Int) + -(Y : Int) < 0) = true := by simp; omega
    have t3 : ((X : Int) + -(Y : Int)).natAbs = Y - X := by omega
    rw [if_neg t1, t2, t3, near_rung, near_rd, Nat.sub_mul, ← e1, ← e2]
    rfl
  · rw [if_neg (fun h => hlt (hiff.1 h))]
    have t3 : ((X : Int) + -(Y : Int)).natAbs = X - Y := by omega
    have t2 : decide ((X : Int) + -(Y : Int) < 0) = false := by simp; omega
    rw [t2, t3]
    simp only [Bool.and_true, ite_self]
    rw [near_rd, Nat.sub_mul, ← e1, ← e2]
/-- a number with at most 53 digits is the value of its word -/
theorem val_rep (c l : Nat) (hc : c ≤ 9007199254740992) (hl : l ≤ 1900) : valW (rdW (c * 2 ^ l)) = c * 2 ^ l ∧ rdW (c * 2 ^ l) < 9218868437227405312 := by
  have hb : (c * 2 ^ l).log2 ≤ 2000 := by
    obtain ⟨k, hk⟩ : ∃ k, k = 2000 := ⟨_, rfl⟩
    rw [← hk]
    apply log_le
    have h1 : c * 2 ^ l ≤ 2 ^ 53 * 2 ^ l := Nat.mul_le_mul_right _ hc
    have h2 : 2 ^ 53 * 2 ^ l < 2 ^ (k + 1) := by
      rw [← Nat.pow_add]
      exact Nat.pow_lt_pow_right (by omega) (by omega)
    exact Nat.lt_of_le_of_lt h1 h2
  have := val_rd _ hb
  rw [rdN_rep c l hc] at this
  exact this
theorem rd_val (w : Nat) : rdN (valW w) = valW w := by
  have h := magW_lt w
  exact rdN_rep (magW w) (plcW w) (by omega)
theorem key_pos (r : Nat) (h : r < 9218868437227405312) : keyW r = (valW r : Int) := by
  have h1 : sgW r = false := by unfold sgW; rw [show r / 9223372036854775808 = 0 by omega]; rfl
  have h2 : rgW r = r := by unfold rgW; exact Nat.mod_eq_of_lt (by omega)
  unfold keyW
  rw [h1, h2]; simp
theorem key_neg (r : Nat) (h : r < 9218868437227405312) : keyW (9223372036854775808 + r) = -(valW r : Int) := by
  have h1 : sgW (9223372036854775808 + r) = true := by unfold sgW; rw [show (9223372036854775808 + r) / 9223372036854775808 = 1 by omega]; rfl
  have h2 : rgW (9223372036854775808 + r) = r := by unfold rgW; omega
  unfold keyW
  rw [h1, h2]; simp

/-- the sum's last place -/
theorem place_in (M m : Nat) (hm : m ≤ M) (l : Nat) (hl : (valW M + valW m).log2 - 52 = l) : plcW M ≤ l ∧ l ≤ plcW M + 1 := by
  have h1 := val_mono hm
  have hb := magW_lt M
  have e : valW M = magW M * 2 ^ plcW M := rfl
  have hp : 0 < 2 ^ plcW M := Nat.two_pow_pos _
  constructor
  · rcases Nat.eq_zero_or_pos (plcW M) with h0 | h0
    · omega
    · have hg := mag_ge M h0
      have h2 : 2 ^ (52 + plcW M) ≤ valW M + valW m := by
        rw [Nat.pow_add, e]
        have : 4503599627370496 * 2 ^ plcW M ≤ magW M * 2 ^ plcW M := Nat.mul_le_mul_right _ hg
        show 4503599627370496 * 2 ^ plcW M ≤ _
        omega
      have h3 : 52 + plcW M ≤ (valW M + valW m).log2 := by
        rcases Nat.lt_or_ge (valW M + valW m).log2 (52 + plcW M) with h4 | h4
        · have h5 : valW M + valW m < 2 ^ ((valW M + valW m).log2 + 1) := Nat.lt_log2_self
          have h6 : 2 ^ ((valW M + valW m).log2 + 1) ≤ 2 ^ (52 + plcW M) := Nat.pow_le_pow_right (by omega) (by omega)
          omega
        · exact h4
      omega
  · have h2 : valW M + valW m < 2 ^ (53 + plcW M + 1) := by
      have : valW M < 9007199254740992 * 2 ^ plcW M := by rw [e]; exact Nat.mul_lt_mul_of_pos_right hb hp
      have e3 : 2 ^ (53 + plcW M + 1) = 2 * (9007199254740992 * 2 ^ plcW M) := by
        rw [show 53 + plcW M + 1 = 1 + (53 + plcW M) by omega, Nat.pow_add, Nat.pow_add]
      omega
    have := log_le h2
    omega
theorem dvd_rep {x p : Nat} (h : 2 ^ p ∣ x) {B : Nat} (hB : x ≤ B * 2 ^ p) (hb : B ≤ 9007199254740992) (hp : p ≤ 1900) : valW (rdW x) = x ∧ rdW x < 9218868437227405312 := by
  obtain ⟨c, rfl⟩ := h
  rw [Nat.mul_comm (2 ^ p) c] at hB ⊢
  exact val_rep c p (Nat.le_trans (Nat.le_of_mul_le_mul_right hB (Nat.two_pow_pos _)) hb) hp
theorem pow_dvd {p q : Nat} (h : p ≤ q) : 2 ^ p ∣ 2 ^ q := ⟨2 ^ (q - p), by rw [← Nat.pow_add]; congr 1; omega⟩
/-- a sum's words: the rounded sum, and what it lacks -/
theorem two_sum (M m : Nat) (hM : M ≤ W2) (hm : m ≤ M) : ∃ s d x, double.add M m = some s ∧ double.sub s M = some d ∧ double.sub m d = some x ∧ s < 9218868437227405312 ∧ rgW x < 9218868437227405312 ∧
    keyW s = (rdN (valW M + valW m) : Int) ∧ keyW x = ((valW M + valW m : Nat) : Int) - (rdN (valW M + valW m) : Int) := by
  have hM2 := val_le2 hM
  have hm2 := val_mono hm
  have hMw : M < 9218868437227405312 := by unfold W2 at hM; omega
  have hlog : (valW M + valW m).log2 ≤ 2000 := by
    obtain ⟨k, hk⟩ : ∃ k, k = 2000 := ⟨_, rfl⟩
    obtain ⟨j, hj⟩ : ∃ j, j = 1075 := ⟨_, rfl⟩
    rw [← hj] at hM2
    rw [← hk]
    apply log_le
    have h1 : ∀ k : Nat, (2 : Nat) ^ k + 2 ^ k = 2 ^ (k + 1) := fun k => by rw [Nat.pow_succ, Nat.mul_two]
    have h2 : valW M + valW m ≤ 2 ^ (j + 1) := by rw [← h1]; exact Nat.add_le_add hM2 (Nat.le_trans hm2 hM2)
    exact Nat.lt_of_le_of_lt h2 (Nat.pow_lt_pow_right (by omega) (by omega))
  have hpm := plc_mono hm
  have hpM : plcW M ≤ 1900 := by
    have : M ≤ 1024 * 4503599627370496 := by unfold W2 at hM; omega
    have := plc_le M 1024 this (by omega)
    omega
  obtain ⟨l, hl⟩ : ∃ l, (valW M + valW m).log2 - 52 = l := ⟨_, rfl⟩
  have hin := place_in M m hm l hl
  have ha : valW M = magW M * 2 ^ plcW M := rfl
  have hb : valW m = magW m * 2 ^ plcW m := rfl
  have hbM := magW_lt M
  have hbm := magW_lt m
  have hadd := add_rd M m hMw (by omega)
  obtain ⟨hsv, hsl⟩ := val_rd _ hlog
  have hS : rdN (valW M + valW m) = rhe (valW M + valW m) l * 2 ^ l := by unfold rdN; rw [hl]
  have herr := rhe_err (valW M + valW m) l
  rw [← hS] at herr
  have hSa : valW M ≤ rdN (valW M + valW m) := by
    have := rdN_mono (valW M) (valW M + valW m) (by omega)
    rwa [rd_val] at this
  have hdS : 2 ^ l ∣ rdN (valW M + valW m) := ⟨_, by rw [hS, Nat.mul_comm]⟩
  have hda : 2 ^ plcW M ∣ valW M := ⟨_, by rw [ha, Nat.mul_comm]⟩
  have hdb : 2 ^ plcW m ∣ valW m := ⟨_, by rw [hb, Nat.mul_comm]⟩
  have h2l : 2 ^ l ≤ 2 * 2 ^ plcW M := by
    have : 2 ^ l ≤ 2 ^ (plcW M + 1) := Nat.pow_le_pow_right (by omega) hin.2
    rw [Nat.pow_succ, Nat.mul_comm] at this
    exact this
  have haB : valW M ≤ 9007199254740991 * 2 ^ plcW M := by rw [ha]; exact Nat.mul_le_mul_right _ (by omega)
  have hbB : valW m ≤ 9007199254740991 * 2 ^ plcW m := by rw [hb]; exact Nat.mul_le_mul_right _ (by omega)
  have hlow : l = plcW M + 1 → 2 ^ plcW M ≤ valW m := fun he => by
    have h52 : 52 ≤ (valW M + valW m).log2 := by omega
    have hN : valW M + valW m ≠ 0 := by
      intro h0; rw [h0] at h52; simp at h52
    have h1 : 2 ^ (valW M + valW m).log2 ≤ valW M + valW m := Nat.log2_self_le hN
    have h3 : 2 ^ (valW M + valW m).log2 = 9007199254740992 * 2 ^ plcW M := by
      rw [show (9007199254740992 : Nat) = 2 ^ 53 from rfl, ← Nat.pow_add]; congr 1; omega
    omega
  have hmod : valW M % 2 ^ plcW M = 0 := Nat.mod_eq_zero_of_dvd hda
  obtain ⟨S, hSS⟩ : ∃ S, rdN (valW M + valW m) = S := ⟨_, rfl⟩
  obtain ⟨s, hss⟩ : ∃ s, rdW (valW M + valW m) = s := ⟨_, rfl⟩
  rw [hSS] at hsv herr hSa hdS
  rw [hss] at hadd hsv hsl
  -- the first difference
  have hrep1 := dvd_rep (x := S - valW M) (p := plcW M) (Nat.dvd_sub (Nat.dvd_trans (pow_dvd hin.1) hdS) hda) (B := 9007199254740992) (by omega) (by omega) hpM
  have hsub1 : double.sub s M = some (rdW (S - valW M)) := by
    rw [sub_rd s M hsl hMw, hsv, if_neg (by omega)]
  -- the second difference
  have hSN : S ≤ valW M + valW m + valW m := by
    rcases Nat.lt_or_ge (valW M + valW m) S with h1 | h1
    · rcases Nat.lt_or_eq_of_le hin.2 with h2 | h2
      · obtain rfl : l = plcW M := by omega
        have hr0 : (valW M + valW m) % 2 ^ plcW M = valW m % 2 ^ plcW M := by rw [Nat.add_mod, hmod, Nat.zero_add, Nat.mod_mod]
        have hr1 : valW m % 2 ^ plcW M ≤ valW m := Nat.mod_le _ _
        have hdm := Nat.div_add_mod (valW M + valW m) (2 ^ plcW M)
        have hS3 := hS
        rw [hSS] at hS3
        unfold rhe at hS3
        rw [hr0] at hdm hS3
        rw [Nat.add_mul, Nat.mul_comm ((valW M + valW m) / 2 ^ plcW M)] at hS3
        split at hS3
        · next hc => omega
        · omega
      · have := hlow h2
        rw [h2, Nat.pow_succ] at herr
        omega
    · omega
  have hd2 : 2 ^ plcW m ∣ S := Nat.dvd_trans (pow_dvd (Nat.le_trans hpm hin.1)) hdS
  have hd3 : 2 ^ plcW m ∣ valW M + valW m := Nat.dvd_add (Nat.dvd_trans (pow_dvd hpm) hda) hdb
  have hpm2 : plcW m ≤ 1900 := by omega
  have hmw : m < 9218868437227405312 := by omega
  have hsub2 := sub_rd m (rdW (S - valW M)) hmw hrep1.2
  rw [hrep1.1] at hsub2
  refine ⟨s, rdW (S - valW M), _, hadd, hsub1, hsub2, hsl, ?_, by rw [key_pos s hsl, hsv, hSS], ?_⟩
  · by_cases hlt : valW m < S - valW M
    · rw [if_pos hlt]
      have hx := dvd_rep (x := S - valW M - valW m) (p := plcW m) (by rw [Nat.sub_sub]; exact Nat.dvd_sub hd2 hd3) (B := 9007199254740991) (by omega) (by omega) hpm2
      have : rgW (9223372036854775808 + rdW (S - valW M - valW m)) = rdW (S - valW M - valW m) := by unfold rgW; omega
      rw [this]; exact hx.2
    · rw [if_neg hlt]
      have hx := dvd_rep (x := valW m - (S - valW M)) (p := plcW m) (by rw [show valW m - (S - valW M) = valW M + valW m - S by omega]; exact Nat.dvd_sub hd3 hd2) (B := 9007199254740991) (by omega) (by omega) hpm2
      have : rgW (rdW (valW m - (S - valW M))) = rdW (valW m - (S - valW M)) := by unfold rgW; omega
      rw [this]; exact hx.2
  · rw [hSS]
    by_cases hlt : valW m < S - valW M
    · rw [if_pos hlt]
      have hx := dvd_rep (x := S - valW M - valW m) (p := plcW m) (by rw [Nat.sub_sub]; exact Nat.dvd_sub hd2 hd3) (B := 9007199254740991) (by omega) (by omega) hpm2
      rw [key_neg _ hx.2, hx.1]; omega
    · rw [if_neg hlt]
      have hx := dvd_rep (x := valW m - (S - valW M)) (p := plcW m) (by rw [show valW m - (S - valW M) = valW M + valW m - S by omega]; exact Nat.dvd_sub hd3 hd2) (B := 9007199254740991) (by omega) (by omega) hpm2
      rw [key_pos _ hx.2, hx.1]; omega
/-- the order of sums by their words: that of the exact sums -/
theorem sums_order (N N' : Nat) : ((rdN N : Int) < rdN N' ∨ ((rdN N : Int) = rdN N' ∧ (N : Int) - rdN N < (N' : Int) - rdN N')) ↔ N < N' := by
  constructor
  · intro h
    rcases h with h | ⟨h1, h2⟩
    · rcases Nat.lt_or_ge N N' with h3 | h3
      · exact h3
      · have := rdN_mono N' N h3; omega
    · omega
  · intro h
    have := rdN_mono N N' (by omega)
    omega
end Go.Proofs.YthohoendjipleaaGreatDoor
