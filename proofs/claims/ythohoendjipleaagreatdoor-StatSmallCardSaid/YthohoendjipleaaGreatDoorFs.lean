/-
  Plain facts of the model's floats, with signs: the reading of a word, the order, sums and differences. Conditions: finite words.
-/
import Derived.Test.YthohoendjipleaaGreatDoorFl
namespace Go.Proofs.YthohoendjipleaaGreatDoor
open Ieee

/-- the sign and the rung of a word -/
def sgW (w : Nat) : Bool := w / 9223372036854775808 % 2 == 1
def rgW (w : Nat) : Nat := w % 9223372036854775808
theorem read_any (w : Nat) (h : rgW w < 9218868437227405312) : double.read w = .number (sgW w) (magW (rgW w)) (-1074 + (plcW (rgW w) : Int)) := by
  unfold Format.read
  simp only [sw_eq, binade_eq, inf_eq, least_eq]
  unfold rgW at h
  unfold sgW rgW magW plcW
  by_cases h3 : w % 9223372036854775808 < 4503599627370496
  · simp [h3]
  · simp [h3, h]
/-- what a word stands for, as a multiple of the least number -/
def keyW (w : Nat) : Int := if sgW w then -(valW (rgW w) : Int) else (valW (rgW w) : Int)
theorem signed_val (s : Bool) (w m : Nat) (h : m ≤ plcW w) : signed s (magW w) (plcW w - m) * (2 ^ m : Nat) = if s then -(valW w : Int) else (valW w : Int) := by
  have e : valW w = magW w * 2 ^ (plcW w - m) * 2 ^ m := by
    unfold valW; rw [Nat.mul_assoc, ← Nat.pow_add]; congr 2; omega
  unfold signed
  rw [shl_cast, e]
  cases s
  · simp
  · simp [Int.neg_mul]
theorem cmp_scale (a b : Int) (k : Nat) (hk : 0 < k) : compare a b = compare (a * (k : Int)) (b * (k : Int)) := by
  have hk' : (0 : Int) < k := by omega
  rcases Int.lt_trichotomy a b with h | h | h
  · rw [cmp_lt h, cmp_lt (Int.mul_lt_mul_of_pos_right h hk')]
  · subst h; simp
  · rw [cmp_gt h, cmp_gt (Int.mul_lt_mul_of_pos_right h hk')]
theorem order_any (w v : Nat) (hw : rgW w < 9218868437227405312) (hv : rgW v < 9218868437227405312) : double.order w v = some (compare (keyW w) (keyW v)) := by
  unfold Format.order
  rw [read_any w hw, read_any v hv]
  simp only [Datum.order]
  have b1 : (-1074 + (plcW (rgW w) : Int) - min (-1074 + (plcW (rgW w) : Int)) (-1074 + (plcW (rgW v) : Int))).toNat = plcW (rgW w) - min (plcW (rgW w)) (plcW (rgW v)) := by omega
  have b2 : (-1074 + (plcW (rgW v) : Int) - min (-1074 + (plcW (rgW w) : Int)) (-1074 + (plcW (rgW v) : Int))).toNat = plcW (rgW v) - min (plcW (rgW w)) (plcW (rgW v)) := by omega
  rw [b1, b2, cmp_scale _ _ (2 ^ min (plcW (rgW w)) (plcW (rgW v))) (Nat.two_pow_pos _), signed_val _ _ _ (Nat.min_le_left _ _), signed_val _ _ _ (Nat.min_le_right _ _)]
  rfl
theorem near_rung (neg : Bool) (mag : Nat) (place : Int) : double.nearest neg mag place = (if neg then 9223372036854775808 else 0) + double.nearest false mag place := by
  have hc : ∀ n d, Toward.even.cut neg n d = Toward.even.cut false n d := fun n d => rfl
  unfold Format.nearest
  split
  · cases neg <;> simp [Format.word, sw_eq]
  · cases neg <;> simp [Format.word, sw_eq, hc]
theorem near_fin (neg : Bool) (mag : Nat) (place : Int) (E X : Nat) (hE : 1 ≤ E) (hE2 : E ≤ 2000) (hm : mag < 2 ^ X) (hX : (X : Int) + place + 1074 ≤ E + 52) : rgW (double.nearest neg mag place) ≤ (E + 1) * 4503599627370496 := by
  rw [near_rung]
  have h := near_le mag place E X hE hm hX
  unfold rgW
  generalize double.nearest false mag place = r at *
  cases neg
  · simp; rw [Nat.mod_eq_of_lt (by omega)]; exact h
  · simp; rw [Nat.mod_eq_of_lt (by omega)]; exact h
theorem signed_abs (s : Bool) (m u : Nat) : (signed s m u).natAbs = m * 2 ^ u := by
  unfold signed
  rw [Nat.shiftLeft_eq]
  cases s
  · exact Int.natAbs_natCast _
  · show (-((m * 2 ^ u : Nat) : Int)).natAbs = _
    rw [Int.natAbs_neg]; exact Int.natAbs_natCast _
theorem plc_le (r k : Nat) (h : r ≤ k * 4503599627370496) (hk : 1 ≤ k) : plcW r ≤ k - 1 := by
  unfold plcW
  split
  · omega
  · have : r / 4503599627370496 ≤ k := Nat.div_le_of_le_mul (by rw [Nat.mul_comm]; exact h)
    omega
theorem sum_fin (s t : Bool) (m n p q k : Nat) (hm : m < 9007199254740992) (hn : n < 9007199254740992) (hk1 : 1 ≤ k) (hp : p ≤ k - 1) (hq : q ≤ k - 1) (hk : k ≤ 1500) :
    ∃ r, ((Datum.number s m (-1074 + (p : Int))).sum (Datum.number t n (-1074 + (q : Int)))).map double.write = some r ∧ rgW r ≤ (k + 2) * 4503599627370496 := by
  simp only [Datum.sum, Option.map_some, Format.write]
  refine ⟨_, rfl, ?_⟩
  have b1 : (-1074 + (p : Int) - min (-1074 + (p : Int)) (-1074 + (q : Int))).toNat = p - min p q := by omega
  have b2 : (-1074 + (q : Int) - min (-1074 + (p : Int)) (-1074 + (q : Int))).toNat = q - min p q := by omega
  rw [b1, b2]
  refine near_fin _ _ _ (k + 1) (54 + (max p q - min p q)) (by omega) (by omega) ?_ (by omega)
  refine Nat.lt_of_le_of_lt (Int.natAbs_add_le _ _) ?_
  rw [signed_abs, signed_abs]
  have h1 : m * 2 ^ (p - min p q) < 2 ^ 53 * 2 ^ (max p q - min p q) := by
    refine Nat.lt_of_lt_of_le (Nat.mul_lt_mul_of_pos_right hm (Nat.two_pow_pos _)) (Nat.mul_le_mul (by omega) (Nat.pow_le_pow_right (by omega) (by omega)))
  have h2 : n * 2 ^ (q - min p q) < 2 ^ 53 * 2 ^ (max p q - min p q) := by
    refine Nat.lt_of_lt_of_le (Nat.mul_lt_mul_of_pos_right hn (Nat.two_pow_pos _)) (Nat.mul_le_mul (by omega) (Nat.pow_le_pow_right (by omega) (by omega)))
  have h3 : 2 ^ (54 + (max p q - min p q)) = 2 * (2 ^ 53 * 2 ^ (max p q - min p q)) := by
    rw [← Nat.pow_add, ← Nat.pow_succ']; congr 1; omega
  omega
theorem add_fin (w v k : Nat) (hw : rgW w ≤ k * 4503599627370496) (hv : rgW v ≤ k * 4503599627370496) (hk1 : 1 ≤ k) (hk : k ≤ 1500) : ∃ r, double.add w v = some r ∧ rgW r ≤ (k + 2) * 4503599627370496 := by
  unfold Format.add
  rw [read_any w (by omega), read_any v (by omega)]
  exact sum_fin _ _ _ _ _ _ k (magW_lt _) (magW_lt _) hk1 (plc_le _ _ hw hk1) (plc_le _ _ hv hk1) hk
theorem sub_fin (w v k : Nat) (hw : rgW w ≤ k * 4503599627370496) (hv : rgW v ≤ k * 4503599627370496) (hk1 : 1 ≤ k) (hk : k ≤ 1500) : ∃ r, double.sub w v = some r ∧ rgW r ≤ (k + 2) * 4503599627370496 := by
  unfold Format.sub
  rw [read_any w (by omega), read_any v (by omega)]
  exact sum_fin _ _ _ _ _ _ k (magW_lt _) (magW_lt _) hk1 (plc_le _ _ hw hk1) (plc_le _ _ hv hk1) hk
theorem rg_small (a : Nat) (h : a ≤ W2) : rgW a ≤ 1024 * 4503599627370496 := by
  unfold W2 at h
  unfold rgW
  rw [Nat.mod_eq_of_lt (by omega)]; omega
end Go.Proofs.YthohoendjipleaaGreatDoor
