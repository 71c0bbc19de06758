/-
  Plain facts on the texts of words: the text of a word gives back its parts. No program in sight.
-/
import Derived.Test.YtllcppdgamagoaaDoorI
namespace Go.Proofs.YtllcppdgamagoaaDoor
open Go.Lib

theorem pu_append (acc : Nat) (l m : List UInt8) : pu acc (l ++ m) = (pu acc l).bind (fun n => pu n m) := by
  induction l generalizing acc with
  | nil => rfl
  | cons c r ih =>
    simp only [List.cons_append, pu]
    split
    · exact ih _
    · rfl
theorem digit_nat (k : Nat) (h : k < 10) : (UInt8.ofNat (48 + k)).toNat = 48 + k := by
  rw [UInt8.toNat_ofNat']; omega
theorem decDigits_last (u : Nat) : ∃ l, Lib.decDigits u = l ++ [UInt8.ofNat (48 + u % 10)] ∧ (l = [] ∨ l = Lib.decDigits (u / 10)) := by
  rw [Lib.decDigits]
  by_cases h : u < 10
  · rw [dif_pos h]
    exact ⟨[], by rw [Nat.mod_eq_of_lt h]; rfl, .inl rfl⟩
  · rw [dif_neg h]
    exact ⟨_, rfl, .inr rfl⟩
theorem decDigits_ne (u : Nat) : Lib.decDigits u ≠ [] := by
  obtain ⟨l, e, _⟩ := decDigits_last u
  rw [e]
  simp
theorem pu_digits (u : Nat) (h : u ≤ 4611686018427387903) : pu 0 (Lib.decDigits u) = some u := by
  induction u using Nat.strongRecOn with
  | ind u ih =>
    have hd := digit_nat (u % 10) (by omega)
    rw [Lib.decDigits]
    by_cases h10 : u < 10
    · rw [dif_pos h10]
      have hd := digit_nat u h10
      simp only [pu, hd]
      rw [if_pos (by omega)]
      congr 1
      omega
    · rw [dif_neg h10, pu_append, ih (u / 10) (by omega) (by omega)]
      simp only [Option.bind_some, pu, hd]
      rw [if_pos (by omega)]
      congr 1
      omega
theorem puAll_digits (u : Nat) (h : u ≤ 4611686018427387903) : puAll (Lib.decDigits u) = some u := by
  rw [puAll, if_neg (decDigits_ne u), pu_digits u h]
theorem pu_le {acc : Nat} {l : List UInt8} {u : Nat} (h : pu acc l = some u) (ha : acc ≤ 4611686018427387903) : u ≤ 4611686018427387903 := by
  induction l generalizing acc with
  | nil => simp only [pu, Option.some.injEq] at h; omega
  | cons c r ih =>
    simp only [pu] at h
    split at h
    · rename_i hc; exact ih h hc.2.2
    · cases h
theorem puAll_le {l : List UInt8} {u : Nat} (h : puAll l = some u) : u ≤ 4611686018427387903 := by
  unfold puAll at h
  split at h
  · cases h
  · exact pu_le h (by omega)

theorem hasSuffix_snoc (l : List UInt8) (c x : UInt8) : Lib.hasSuffix (l ++ [c]) [x] = (x == c) := by
  simp only [Lib.hasSuffix, List.isSuffixOf, List.reverse_append, List.reverse_cons, List.reverse_nil, List.nil_append, List.cons_append]
  show (x == c && List.isPrefixOf [] _) = _
  simp [List.isPrefixOf]
theorem trimSuffix_snoc (l : List UInt8) (x : UInt8) : Lib.trimSuffix (l ++ [x]) [x] = l := by
  rw [Lib.trimSuffix, hasSuffix_snoc, if_pos (by simp)]
  simp
theorem trimSuffix_not (l : List UInt8) (x : UInt8) (h : Lib.hasSuffix l [x] = false) : Lib.trimSuffix l [x] = l := by
  rw [Lib.trimSuffix, h]; rfl
theorem digit_ne (u : Nat) (x : UInt8) (hx : x.toNat = 43 ∨ x.toNat = 120) : (x == UInt8.ofNat (48 + u % 10)) = false := by
  have hd := digit_nat (u % 10) (by omega)
  cases hb : x == UInt8.ofNat (48 + u % 10) with
  | false => rfl
  | true =>
    have : x = UInt8.ofNat (48 + u % 10) := by simpa using hb
    rw [this, hd] at hx
    omega
theorem showL_hasX (u : Nat) (p q : Bool) : Lib.hasSuffix (showL u p q) [120] = q := by
  cases q
  · cases p
    · obtain ⟨l, e, _⟩ := decDigits_last u
      simp only [showL, Bool.false_eq_true, if_false, List.append_nil, e]
      rw [hasSuffix_snoc]
      exact digit_ne u 120 (.inr rfl)
    · simp only [showL, Bool.false_eq_true, if_false, if_true, List.append_nil]
      rw [hasSuffix_snoc]; rfl
  · simp only [showL, if_true]
    rw [← List.append_assoc, hasSuffix_snoc]; rfl
theorem showL_trimX (u : Nat) (p q : Bool) : Lib.trimSuffix (showL u p q) [120] = showL u p false := by
  cases q
  · exact trimSuffix_not _ _ (showL_hasX u p false)
  · simp only [showL, if_true, Bool.false_eq_true, if_false, List.append_nil]
    rw [← List.append_assoc, trimSuffix_snoc]
theorem showL_hasP (u : Nat) (p : Bool) : Lib.hasSuffix (showL u p false) [43] = p := by
  cases p
  · obtain ⟨l, e, _⟩ := decDigits_last u
    simp only [showL, Bool.false_eq_true, if_false, List.append_nil, e]
    rw [hasSuffix_snoc]
    exact digit_ne u 43 (.inl rfl)
  · simp only [showL, Bool.false_eq_true, if_false, if_true, List.append_nil]
    rw [hasSuffix_snoc]; rfl
theorem showL_trimP (u : Nat) (p : Bool) : Lib.trimSuffix (showL u p false) [43] = Lib.decDigits u := by
  cases p
  · rw [trimSuffix_not _ _ (showL_hasP u false)]
    simp [showL]
  · simp only [showL, if_true, Bool.false_eq_true, if_false, List.append_nil]
    rw [trimSuffix_snoc]
theorem showL_inj {u v : Nat} {p q p' q' : Bool} (hu : u ≤ 4611686018427387903) (hv : v ≤ 4611686018427387903) (h : showL u p q = showL v p' q') : u = v ∧ p = p' ∧ q = q' := by
  have e1 := congrArg (fun l => Lib.hasSuffix l [120]) h
  simp only [showL_hasX] at e1
  have e2 := congrArg (fun l => Lib.trimSuffix l [120]) h
  simp only [showL_trimX] at e2
  have e3 := congrArg (fun l => Lib.hasSuffix l [43]) e2
  simp only [showL_hasP] at e3
  have e4 := congrArg (fun l => Lib.trimSuffix l [43]) e2
  simp only [showL_trimP] at e4
  have e5 := congrArg puAll e4
  rw [puAll_digits u hu, puAll_digits v hv] at e5
  exact ⟨by simpa using e5, e3, e1⟩
end Go.Proofs.YtllcppdgamagoaaDoor
