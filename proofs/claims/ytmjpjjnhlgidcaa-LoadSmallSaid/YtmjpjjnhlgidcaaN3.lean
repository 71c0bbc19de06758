/-
  Layer 15: Less and its reference at any two words. Conditions: none.
-/
import Derived.Test.YtmjpjjnhlgidcaaN2
namespace Go.Proofs.Ytmjpjjnhlgidcaa
open Go.RowKit Go.Sort
set_option linter.unusedSimpArgs false
set_option linter.unusedVariables false

theorem sum_of (a b M m s d x : Nat) (m1 : ∀ ts t w, (Builtin.max_ ts t #[.float .f64 a, .float .f64 b]).run Try.prog w = .ok (.float .f64 M) w) (m2 : ∀ ts t w, (Builtin.min_ ts t #[.float .f64 a, .float .f64 b]).run Try.prog w = .ok (.float .f64 m) w)
    (h1 : Ieee.double.add M m = some s) (h2 : Ieee.double.sub s M = some d) (h3 : Ieee.double.sub m d = some x) (w : World) : Calls Try.prog 31 #[.complex .f64 a b] w fun e w' => e = .returned (.tuple #[.float .f64 s, .float .f64 x]) ∧ w = w' := by
  have k1 : ∀ w : World, (binOp .add 35 (.float .f64 M) (.float .f64 m)).run Try.prog w = .ok (.float .f64 s) w := fun w => run_float_arith w .add 35 .f64 _ _ _ h1
  have k2 : ∀ w : World, (binOp .sub 35 (.float .f64 s) (.float .f64 M)).run Try.prog w = .ok (.float .f64 d) w := fun w => run_float_arith w .sub 35 .f64 _ _ _ h2
  have k3 : ∀ w : World, (binOp .sub 35 (.float .f64 m) (.float .f64 d)).run Try.prog w = .ok (.float .f64 x) w := fun w => run_float_arith w .sub 35 .f64 _ _ _ h3
  clear h1 h2 h3
  go_enter Try.func31, Try.ntmps31
  go_wp2_with fail
  refine (parts_is a b _).mono ?_
  rintro e w1 ⟨rfl, rfl⟩
  go_wp2_with fail
  go_ret2
  exact ⟨rfl, rfl⟩
theorem max_lt {a b : Nat} (h : FloatKind.f64.format.order a b = some .lt) (ts : Array TypeId) (t : TypeId) (w : World) : (Builtin.max_ ts t #[.float .f64 a, .float .f64 b]).run Try.prog w = .ok (.float .f64 b) w := by
  simp [Builtin.max_, Builtin.max2, h]
theorem max_gt {a b : Nat} (h : FloatKind.f64.format.order a b = some .gt) (ts : Array TypeId) (t : TypeId) (w : World) : (Builtin.max_ ts t #[.float .f64 a, .float .f64 b]).run Try.prog w = .ok (.float .f64 a) w := by
  simp [Builtin.max_, Builtin.max2, h]
theorem min_lt {a b : Nat} (h : FloatKind.f64.format.order a b = some .lt) (ts : Array TypeId) (t : TypeId) (w : World) : (Builtin.min_ ts t #[.float .f64 a, .float .f64 b]).run Try.prog w = .ok (.float .f64 a) w := by
  simp [Builtin.min_, Builtin.min2, h]
theorem min_gt {a b : Nat} (h : FloatKind.f64.format.order a b = some .gt) (ts : Array TypeId) (t : TypeId) (w : World) : (Builtin.min_ ts t #[.float .f64 a, .float .f64 b]).run Try.prog w = .ok (.float .f64 b) w := by
  simp [Builtin.min_, Builtin.min2, h]
theorem add_nz (y : Nat) : Ieee.double.add y 9223372036854775808 = Ieee.double.sub y 0 := by
  unfold Ieee.Format.add Ieee.Format.sub
  rfl
theorem val_0 : valW 0 = 0 := by kernel_rfl
theorem nz_sums (y : Nat) (hy : y ≤ W2) : ∃ s d, Ieee.double.add y 9223372036854775808 = some s ∧ Ieee.double.sub s y = some d ∧ Ieee.double.sub 9223372036854775808 d = some 9223372036854775808 ∧ rgW s < 9218868437227405312 ∧ keyW s = (valW y : Int) := by
  have hy' : y < 9218868437227405312 := by unfold W2 at hy; omega
  have h1 := sub_rd y 0 hy' (by omega)
  rw [val_0, if_neg (by omega), Nat.sub_zero] at h1
  have hlog : (valW y).log2 ≤ 2000 := by
    have h2 := val_le2 hy
    obtain ⟨k, hk⟩ : ∃ k, k = 1075 := ⟨_, rfl⟩
    rw [← hk] at h2
    have h3 := log_le (N := valW y) (k := k) (by rw [Nat.pow_succ]; have := Nat.two_pow_pos k; omega)
    omega
  obtain ⟨h4, h5⟩ := val_rd (valW y) hlog
  rw [rd_val] at h4
  obtain ⟨s, hs⟩ : ∃ s, rdW (valW y) = s := ⟨_, rfl⟩
  rw [hs] at h1 h4 h5
  have h6 := sub_rd s y h5 hy'
  rw [h4, if_neg (by omega), Nat.sub_self] at h6
  refine ⟨s, rdW 0, by rw [add_nz]; exact h1, h6, by kernel_rfl, ?_, by rw [key_pos s h5, h4]⟩
  unfold rgW; (repeat' split) <;> omega
theorem sum_val {a b x y : Nat} (ha : Val a x) (hb : Val b y) : ∃ s r, (∀ w, Calls Try.prog 31 #[.complex .f64 a b] w fun e w' => e = .returned (.tuple #[.float .f64 s, .float .f64 r]) ∧ w = w') ∧ rgW s < 9218868437227405312 ∧ rgW r < 9218868437227405312 ∧ keyW s = (rdN (valW x + valW y) : Int) ∧ keyW r = ((valW x + valW y : Nat) : Int) - rdN (valW x + valW y) := by
  have ho := val_ord ha hb
  have knz : keyW 9223372036854775808 = 0 := by kernel_rfl
  have rnz : rgW 9223372036854775808 < 9218868437227405312 := by decide
  rcases ha with ⟨rfl, ha⟩ | ⟨rfl, rfl⟩
  · rcases hb with ⟨rfl, hb⟩ | ⟨rfl, rfl⟩
    · obtain ⟨_, _, _, f1, f2⟩ := sm_fin a b ha hb
      exact ⟨smS a b, smX a b, fun w => sum_is a b ha hb w, f1, f2, sm_keys a b ha hb⟩
    · by_cases h0 : a = 0
      · subst h0
        refine ⟨0, 9223372036854775808, fun w => sum_of 0 9223372036854775808 0 9223372036854775808 0 0 9223372036854775808 (fun ts t w => by rfl) (fun ts t w => by rfl) (by kernel_rfl) (by kernel_rfl) (by kernel_rfl) w, by decide, rnz, by kernel_rfl, by kernel_rfl⟩
      · rw [Nat.compare_eq_gt.2 (by omega)] at ho
        obtain ⟨s, d, e1, e2, e3, e4, e5⟩ := nz_sums a ha
        refine ⟨s, _, fun w => sum_of a _ a _ s d _ (max_gt ho) (min_gt ho) e1 e2 e3 w, e4, rnz, ?_, ?_⟩
        · rw [e5, val_0, Nat.add_zero, rd_val]
        · rw [knz, val_0, Nat.add_zero, rd_val]; omega
  · rcases hb with ⟨rfl, hb⟩ | ⟨rfl, rfl⟩
    · by_cases h0 : b = 0
      · subst h0
        refine ⟨0, 9223372036854775808, fun w => sum_of 9223372036854775808 0 0 9223372036854775808 0 0 9223372036854775808 (fun ts t w => by rfl) (fun ts t w => by rfl) (by kernel_rfl) (by kernel_rfl) (by kernel_rfl) w, by decide, rnz, by kernel_rfl, by kernel_rfl⟩
      · rw [Nat.compare_eq_lt.2 (by omega)] at ho
        obtain ⟨s, d, e1, e2, e3, e4, e5⟩ := nz_sums b hb
        refine ⟨s, _, fun w => sum_of _ b b _ s d _ (max_lt ho) (min_lt ho) e1 e2 e3 w, e4, rnz, ?_, ?_⟩
        · rw [e5, val_0, Nat.zero_add, rd_val]
        · rw [knz, val_0, Nat.zero_add, rd_val]; omega
    · refine ⟨9223372036854775808, 9223372036854775808, fun w => sum_of 9223372036854775808 9223372036854775808 9223372036854775808 9223372036854775808 9223372036854775808 0 9223372036854775808 (fun ts t w => by rfl) (fun ts t w => by rfl) (by kernel_rfl) (by kernel_rfl) (by kernel_rfl) w, rnz, rnz, by kernel_rfl, by kernel_rfl⟩
end Go.Proofs.Ytmjpjjnhlgidcaa
