/-
  Plain: numbers as rows of decimal digits, the lowest first: their sum and their order. Conditions: none.
-/
namespace Go.Proofs.YthohoendjipleaaGreatDoor

def dg (n : Nat) : List Nat := if h : n = 0 then [] else n % 10 :: dg (n / 10)
termination_by n
decreasing_by omega
theorem dg_zero : dg 0 = [] := by rw [dg, dif_pos rfl]
theorem dg_pos {n : Nat} (h : n ≠ 0) : dg n = n % 10 :: dg (n / 10) := by rw [dg, dif_neg h]
theorem dg_nil {n : Nat} : dg n = [] ↔ n = 0 := by
  constructor
  · intro h
    by_cases h0 : n = 0
    · exact h0
    · rw [dg_pos h0] at h; cases h
  · rintro rfl; exact dg_zero
theorem dg_lt (n : Nat) : ∀ d ∈ dg n, d < 10 := by
  induction n using Nat.strongRecOn with
  | ind n ih =>
    intro d hd
    by_cases h : n = 0
    · subst h; rw [dg_zero] at hd; cases hd
    · rw [dg_pos h] at hd
      rcases List.mem_cons.1 hd with rfl | hd
      · omega
      · exact ih (n / 10) (by omega) d hd
theorem dg_len (n : Nat) : n < 10 ^ (dg n).length ∧ (n ≠ 0 → 10 ^ ((dg n).length - 1) ≤ n) := by
  induction n using Nat.strongRecOn with
  | ind n ih =>
    by_cases h : n = 0
    · subst h; rw [dg_zero]; simp
    · obtain ⟨h1, h2⟩ := ih (n / 10) (by omega)
      rw [dg_pos h, List.length_cons]
      refine ⟨by rw [Nat.pow_succ]; omega, fun _ => ?_⟩
      rw [Nat.add_sub_cancel]
      by_cases h3 : n / 10 = 0
      · rw [h3, dg_zero]; simp; omega
      · have h4 := h2 h3
        have hl : (dg (n / 10)).length ≠ 0 := by
          intro e
          exact h3 (dg_nil.1 (List.eq_nil_of_length_eq_zero e))
        have e : (dg (n / 10)).length = ((dg (n / 10)).length - 1) + 1 := by omega
        rw [e, Nat.pow_succ]
        omega
theorem dg_len_le (n k : Nat) (h : n < 10 ^ k) : (dg n).length ≤ k := by
  by_cases h0 : n = 0
  · subst h0; rw [dg_zero]; simp
  · have h1 := (dg_len n).2 h0
    apply Classical.byContradiction
    intro h2
    have h3 : 10 ^ k ≤ 10 ^ ((dg n).length - 1) := Nat.pow_le_pow_right (by omega) (by omega)
    omega
theorem dg_len_lt {a b : Nat} (h : (dg a).length < (dg b).length) : a < b := by
  have h1 := (dg_len a).1
  have hb : b ≠ 0 := by intro e; subst e; rw [dg_zero] at h; simp at h
  have h2 := (dg_len b).2 hb
  have h3 : 10 ^ (dg a).length ≤ 10 ^ ((dg b).length - 1) := Nat.pow_le_pow_right (by omega) (by omega)
  omega
theorem dg_drop (n i : Nat) : (dg n).drop i = dg (n / 10 ^ i) := by
  induction i generalizing n with
  | zero => simp
  | succ i ih =>
    by_cases h : n = 0
    · subst h; simp [dg_zero]
    · rw [dg_pos h, List.drop_succ_cons, ih, Nat.div_div_eq_div_mul, Nat.pow_succ, Nat.mul_comm]
theorem dg_get {n i : Nat} (h : i < (dg n).length) : (dg n)[i]? = some (n / 10 ^ i % 10) := by
  have h1 := dg_drop n i
  have hne : n / 10 ^ i ≠ 0 := by
    intro e
    rw [e, dg_zero] at h1
    have := congrArg List.length h1
    rw [List.length_drop] at this
    simp at this
    omega
  rw [dg_pos hne, List.drop_eq_getElem_cons h] at h1
  injection h1 with h1 _
  rw [List.getElem?_eq_getElem h, h1]
theorem dg_in {n i : Nat} : i < (dg n).length ↔ n / 10 ^ i ≠ 0 := by
  constructor
  · intro h e
    have h1 := dg_drop n i
    rw [e, dg_zero] at h1
    have := congrArg List.length h1
    rw [List.length_drop] at this
    simp at this
    omega
  · intro h
    apply Classical.byContradiction
    intro h2
    have h1 := dg_drop n i
    rw [List.drop_eq_nil_of_le (by omega)] at h1
    exact h (dg_nil.1 h1.symm)
theorem div_pow_succ (n i : Nat) : n / 10 ^ (i + 1) = n / 10 ^ i / 10 := by
  rw [Nat.div_div_eq_div_mul, Nat.pow_succ]
/-- three zeros ahead -/
theorem dg_thousand (n : Nat) (h : n ≠ 0) : dg (1000 * n) = 0 :: 0 :: 0 :: dg n := by
  rw [dg_pos (by omega), show 1000 * n % 10 = 0 by omega, show 1000 * n / 10 = 100 * n by omega, dg_pos (by omega), show 100 * n % 10 = 0 by omega, show 100 * n / 10 = 10 * n by omega, dg_pos (by omega), show 10 * n % 10 = 0 by omega, show 10 * n / 10 = n by omega]
/-- the order, from the top: where all digits above number i agree -/
theorem dg_less {a b i : Nat} (h : a / 10 ^ (i + 1) = b / 10 ^ (i + 1)) (hd : a / 10 ^ i % 10 ≠ b / 10 ^ i % 10) : (a < b ↔ a / 10 ^ i % 10 < b / 10 ^ i % 10) := by
  rw [div_pow_succ, div_pow_succ] at h
  have hp : 0 < 10 ^ i := Nat.pow_pos (by omega)
  constructor
  · intro hab
    have h1 : a / 10 ^ i ≤ b / 10 ^ i := Nat.div_le_div_right (Nat.le_of_lt hab)
    omega
  · intro hlt
    have h1 : a / 10 ^ i < b / 10 ^ i := by omega
    have h2 := Nat.lt_of_div_lt_div h1
    exact h2
end Go.Proofs.YthohoendjipleaaGreatDoor
