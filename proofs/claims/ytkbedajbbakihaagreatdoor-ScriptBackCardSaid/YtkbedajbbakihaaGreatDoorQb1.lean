/-
 Texts of this proof, put together (Nm, HjZ): each part's first words say what it holds. Conditions: as each part says.
-/
import Derived.Lib.ParseIntBCases
import Derived.Lib.ItoaNum
import Derived.Test.YtkbedajbbakihaaGreatDoorQb
import Derived.Lib.SplitLaws
/-
 Numbers in texts, plainly: what the program reads as a number (ParseUint, and the text back) and what the reference reads are one. Conditions: none.
-/
namespace Go.Proofs.YtkbedajbbakihaaGreatDoor
open Go.Lib
set_option linter.unusedSimpArgs false
set_option linter.unusedVariables false

theorem digit_nat (k : Nat) (h : k < 10) : (UInt8.ofNat (48 + k)).toNat = 48 + k := by
 rw [UInt8.toNat_ofNat']; omega
theorem digit_of (c : UInt8) (h : 48 ≤ c.toNat ∧ c.toNat ≤ 57) : UInt8.ofNat (48 + (c.toNat - 48)) = c := by
 rw [show 48 + (c.toNat - 48) = c.toNat by omega, UInt8.ofNat_toNat]
theorem decDigits_last (u : Nat) : ∃ l, Lib.decDigits u = l ++ [UInt8.ofNat (48 + u % 10)] ∧ (l = [] ∧ u < 10 ∨ l = Lib.decDigits (u / 10) ∧ 10 ≤ u) := by
 rw [Lib.decDigits]
 by_cases h : u < 10
 ·rw [dif_pos h]
  exact ⟨[], by rw [Nat.mod_eq_of_lt h]; rfl, .inl ⟨rfl, h⟩⟩
 ·rw [dif_neg h]
  exact ⟨_, rfl, .inr ⟨rfl, by omega⟩⟩
theorem decDigits_ne (u : Nat) : Lib.decDigits u ≠ [] := by
 obtain ⟨l, e, _⟩ := decDigits_last u
 rw [e]
 simp
theorem decDigits_in (u : Nat) : ∀ c ∈ Lib.decDigits u, 48 ≤ c.toNat ∧ c.toNat ≤ 57 := by
 induction u using Nat.strongRecOn with
 | ind u ih =>
  obtain ⟨l, e, hl⟩ := decDigits_last u
  intro c hc
  rw [e, List.mem_append, List.mem_singleton] at hc
  rcases hc with hc | rfl
  ·rcases hl with ⟨rfl, _⟩ | ⟨rfl, h10⟩
   ·cases hc
   ·exact ih (u / 10) (by omega) c hc
  ·rw [digit_nat _ (by omega)]; omega
theorem decDigits_no (u : Nat) (x : UInt8) (h : x.toNat < 48) : x ∉ Lib.decDigits u := fun hm => by
 have := decDigits_in u x hm
 omega
theorem decDigits_step (a d : Nat) (ha : 1 ≤ a) (hd : d < 10) : Lib.decDigits (10 * a + d) = Lib.decDigits a ++ [UInt8.ofNat (48 + d)] := by
 rw [Lib.decDigits, dif_neg (by omega), show (10 * a + d) / 10 = a by omega, show (10 * a + d) % 10 = d by omega]
theorem decDigits_head (u : Nat) (hu : 1 ≤ u) : ∀ l, Lib.decDigits u ≠ 48 :: l := by
 induction u using Nat.strongRecOn with
 | ind u ih =>
  intro l h
  obtain ⟨m, e, hl⟩ := decDigits_last u
  rcases hl with ⟨rfl, h10⟩ | ⟨rfl, h10⟩
  ·rw [e, List.nil_append] at h
   injection h with h1 h2
   have h3 := digit_nat (u % 10) (by omega)
   rw [h1] at h3
   have : (48 : UInt8).toNat = 48 := rfl
   omega
  ·cases hd : Lib.decDigits (u / 10) with
   | nil => exact decDigits_ne _ hd
   | cons c r =>
    rw [e, hd, List.cons_append] at h
    injection h with h1 h2
    exact ih (u / 10) (by omega) (by omega) r (by rw [hd, h1])

theorem pm_append (M : Nat) (l m : List UInt8) : ∀ acc n, Lib.parseUintM M acc l = .ok n → Lib.parseUintM M acc (l ++ m) = Lib.parseUintM M n m := by
 induction l with
 | nil => intro acc n h; simp only [Lib.parseUintM] at h; injection h with h; subst h; rfl
 | cons c r ih =>
  intro acc n h
  simp only [Lib.parseUintM, List.cons_append] at h ⊢
  split at h
  ·rename_i h1
   rw [if_pos h1]
   split at h
   ·cases h
   ·rename_i h2
    rw [if_neg h2]
    split at h
    ·cases h
    ·rename_i h3
     rw [if_neg h3]
     exact ih _ _ h
  ·cases h
theorem pm_digits (M u : Nat) (h : u ≤ M) (hM : M ≤ 18446744073709551615) : Lib.parseUintM M 0 (Lib.decDigits u) = .ok u := by
 induction u using Nat.strongRecOn with
 | ind u ih =>
  have hd := digit_nat (u % 10) (by omega)
  obtain ⟨l, e, hl⟩ := decDigits_last u
  rw [e]
  rcases hl with ⟨rfl, h10⟩ | ⟨rfl, h10⟩
  ·simp only [List.nil_append, Lib.parseUintM, hd]
   rw [if_pos (by omega), if_neg (by omega), if_neg (by omega)]
   congr 1
   omega
  ·rw [pm_append M _ _ _ _ (ih (u / 10) (by omega) (by omega))]
   simp only [Lib.parseUintM, hd]
   rw [if_pos (by omega), if_neg (by omega), if_neg (by omega)]
   congr 1
   omega
theorem pb_digits (B u : Nat) (h : u ≤ 2 ^ B - 1) (hB : 2 ^ B - 1 ≤ 18446744073709551615) : Lib.parseUintB B (Lib.decDigits u) = .ok u := by
 rw [Lib.parseUintB, if_neg (decDigits_ne u)]
 exact pm_digits _ u h hB
theorem pb_digits8 (u : Nat) (h : u ≤ 255) : Lib.parseUintB 8 (Lib.decDigits u) = .ok u := pb_digits 8 u (by simpa using h) (by decide)
theorem pb_digits32 (u : Nat) (h : u ≤ 4294967295) : Lib.parseUintB 32 (Lib.decDigits u) = .ok u := pb_digits 32 u (by simpa using h) (by decide)
theorem pb_digits64 (u : Nat) (h : u ≤ 18446744073709551615) : Lib.parseUintB 64 (Lib.decDigits u) = .ok u := pb_digits 64 u (by simpa using h) (by decide)
theorem decDigits_inj (t u : Nat) (ht : t ≤ 18446744073709551615) (hu : u ≤ 18446744073709551615) (h : Lib.decDigits t = Lib.decDigits u) : t = u := by
 have h1 := pb_digits64 t ht
 rw [h, pb_digits64 u hu] at h1
 injection h1 with h1
 exact h1.symm
theorem pm_le (M : Nat) (l : List UInt8) : ∀ acc n, acc ≤ M → Lib.parseUintM M acc l = .ok n → n ≤ M := by
 induction l with
 | nil => intro acc n ha h; simp only [Lib.parseUintM] at h; injection h with h; omega
 | cons c r ih =>
  intro acc n ha h
  simp only [Lib.parseUintM] at h
  split at h
  ·split at h
   ·cases h
   ·split at h
    ·cases h
    ·exact ih _ _ (by omega) h
  ·cases h
theorem pb_le64 {l : List UInt8} {n : Nat} (h : Lib.parseUintB 64 l = .ok n) : n ≤ 18446744073709551615 := by
 unfold Lib.parseUintB at h
 split at h
 ·cases h
 ·exact pm_le _ l 0 n (Nat.zero_le _) h

/-- the program's large number: ParseUint reads it, and it is written back -/
def lrgP (l : List UInt8) : Option Nat :=
 match Lib.parseUintB 64 l with
 | .ok n => if Lib.decDigits n = l then some n else none
 | _ => none
/-- the reference's -/
def lrgA (n : Nat) : List UInt8 → Option Nat
 | [] => some n
 | c :: r => if 48 ≤ c.toNat ∧ c.toNat ≤ 57 then if (18446744073709551615 - (c.toNat - 48)) / 10 < n then none else lrgA (10 * n + (c.toNat - 48)) r else none
def lrg : List UInt8 → Option Nat
 | [] => none
 | c :: r => if r ≠ [] ∧ c = 48 then none else lrgA 0 (c :: r)

theorem lrgP_iff (l : List UInt8) (n : Nat) : lrgP l = some n ↔ n ≤ 18446744073709551615 ∧ l = Lib.decDigits n := by
 unfold lrgP
 constructor
 ·intro h
  split at h
  ·rename_i m hm
   split at h
   ·rename_i he
    cases h
    exact ⟨pb_le64 hm, he.symm⟩
   ·cases h
  ·cases h
 ·rintro ⟨h, rfl⟩
  rw [pb_digits64 n h]
  simp
theorem lrgA_sound (l : List UInt8) : ∀ acc n, 1 ≤ acc → acc ≤ 18446744073709551615 → lrgA acc l = some n → n ≤ 18446744073709551615 ∧ Lib.decDigits n = Lib.decDigits acc ++ l := by
 induction l with
 | nil => intro acc n h1 h2 h; cases h; exact ⟨h2, by simp⟩
 | cons c r ih =>
  intro acc n h1 h2 h
  rw [lrgA] at h
  split at h
  ·rename_i hc
   split at h
   ·cases h
   ·obtain ⟨k1, k2⟩ := ih _ n (by omega) (by omega) h
    refine ⟨k1, ?_⟩
    rw [k2, decDigits_step acc _ h1 (by omega), digit_of c hc, List.append_assoc]
    rfl
  ·cases h
theorem lrgA_append (l m : List UInt8) : ∀ acc n, lrgA acc l = some n → lrgA acc (l ++ m) = lrgA n m := by
 induction l with
 | nil => intro acc n h; cases h; rfl
 | cons c r ih =>
  intro acc n h
  rw [lrgA] at h
  rw [List.cons_append, lrgA]
  split at h
  ·rename_i hc
   rw [if_pos hc]
   split at h
   ·cases h
   ·rename_i hd
    rw [if_neg hd]
    exact ih _ _ h
  ·cases h
theorem lrgA_digits (u : Nat) (h : u ≤ 18446744073709551615) : lrgA 0 (Lib.decDigits u) = some u := by
 induction u using Nat.strongRecOn with
 | ind u ih =>
  have hd := digit_nat (u % 10) (by omega)
  obtain ⟨l, e, hl⟩ := decDigits_last u
  rw [e]
  rcases hl with ⟨rfl, h10⟩ | ⟨rfl, h10⟩
  ·simp only [List.nil_append, lrgA, hd]
   rw [if_pos (by omega), if_neg (by omega)]
   congr 1
   omega
  ·rw [lrgA_append _ _ _ _ (ih (u / 10) (by omega) (by omega))]
   simp only [lrgA, hd]
   rw [if_pos (by omega), if_neg (by omega)]
   congr 1
   omega
theorem lrg_iff (l : List UInt8) (n : Nat) : lrg l = some n ↔ n ≤ 18446744073709551615 ∧ l = Lib.decDigits n := by
 constructor
 ·intro h
  match l with
  | [] => cases h
  | c :: r =>
   rw [lrg] at h
   split at h
   ·cases h
   ·rename_i hz
    rw [lrgA] at h
    split at h
    ·rename_i hc
     split at h
     ·cases h
     ·by_cases h0 : c = 48
      ·have hr : r = [] := by
        apply Classical.byContradiction
        intro hr
        exact hz ⟨hr, h0⟩
       subst h0
       subst hr
       have h48 : (48 : UInt8).toNat = 48 := rfl
       simp only [lrgA, h48] at h
       cases h
       exact ⟨by omega, by rw [Lib.decDigits_one (by omega)]; rfl⟩
      ·have h1 : 1 ≤ 10 * 0 + (c.toNat - 48) := by
        have : c.toNat ≠ 48 := fun e => h0 (by apply UInt8.toNat_inj.1; rw [e]; rfl)
        omega
       obtain ⟨k1, k2⟩ := lrgA_sound r _ n h1 (by omega) h
       refine ⟨k1, ?_⟩
       rw [k2, Lib.decDigits_one (by omega), Nat.mul_zero, Nat.zero_add, digit_of c hc]
       rfl
    ·cases h
 ·rintro ⟨h, rfl⟩
  have h1 := lrgA_digits n h
  cases hd : Lib.decDigits n with
  | nil => exact absurd hd (decDigits_ne n)
  | cons c r =>
   rw [hd] at h1
   rw [lrg, if_neg, h1]
   rintro ⟨hr, rfl⟩
   by_cases h0 : 1 ≤ n
   ·exact decDigits_head n h0 r hd
   ·obtain rfl : n = 0 := by omega
    rw [Lib.decDigits_one (by omega)] at hd
    injection hd with _ h2
    exact hr h2.symm
theorem lrg_eq (l : List UInt8) : lrgP l = lrg l := by
 apply Option.ext
 intro n
 rw [lrgP_iff, lrg_iff]
theorem lrg_digits (n : Nat) (h : n ≤ 18446744073709551615) : lrg (Lib.decDigits n) = some n := (lrg_iff _ n).2 ⟨h, rfl⟩

/-! ### signed numbers -/
def pkP (l : List UInt8) : Option Int :=
 match Lib.parseIntB 64 l with
 | .ok v => if Lib.itoa v = l then some v else none
 | _ => none
def pk : List UInt8 → Option Int
 | 45 :: c :: r => match lrg (c :: r) with
  | some n => if n = 0 ∨ 9223372036854775808 < n then none else some (-(n : Int))
  | none => none
 | l => match lrg l with
  | some n => if n ≤ 9223372036854775807 then some (n : Int) else none
  | none => none
theorem itoa_neg (n : Nat) (h : 1 ≤ n) : Lib.itoa (-(n : Int)) = 45 :: Lib.decDigits n := by
 rw [Lib.itoa, if_pos (by omega)]
 congr 2
 omega
theorem itoa_pos (n : Nat) : Lib.itoa (n : Int) = Lib.decDigits n := by
 rw [Lib.itoa, if_neg (by omega), Int.toNat_natCast]
theorem int_cases (v : Int) : (∃ n : Nat, v = n) ∨ ∃ n : Nat, 1 ≤ n ∧ v = -(n : Int) := by
 by_cases h : 0 ≤ v
 ·exact .inl ⟨v.toNat, by omega⟩
 ·exact .inr ⟨v.natAbs, by omega, by omega⟩
theorem head_dig (n : Nat) : ∃ c r, Lib.decDigits n = c :: r ∧ 48 ≤ c.toNat ∧ c.toNat ≤ 57 := by
 cases hd : Lib.decDigits n with
 | nil => exact absurd hd (decDigits_ne n)
 | cons c r => exact ⟨c, r, rfl, decDigits_in n c (by rw [hd]; exact List.mem_cons_self)⟩
theorem parseInt_itoa (v : Int) (h0 : -9223372036854775808 ≤ v) (h1 : v ≤ 9223372036854775807) : Lib.parseIntB 64 (Lib.itoa v) = .ok v := by
 rcases int_cases v with ⟨n, rfl⟩ | ⟨n, hn, rfl⟩
 ·rw [itoa_pos]
  obtain ⟨c, r, hd, hc⟩ := head_dig n
  have hp := pb_digits64 n (by omega)
  rw [hd] at hp ⊢
  simp only [Lib.parseIntB]
  rw [if_neg (by omega), hp]
  simp only
  rw [if_neg (by omega), if_neg (by omega), if_neg (by omega)]
 ·rw [itoa_neg n hn]
  have hp := pb_digits64 n (by omega)
  have h45 : (45 : UInt8).toNat = 45 := rfl
  simp only [Lib.parseIntB, h45]
  simp only [or_true, if_true, hp, not_true_eq_false, false_and, if_false, true_and]
  rw [if_neg (by omega)]
theorem parseInt_in {l : List UInt8} {v : Int} (h : Lib.parseIntB 64 l = .ok v) : -9223372036854775808 ≤ v ∧ v ≤ 9223372036854775807 := by
 unfold Lib.parseIntB at h
 split at h
 ·cases h
 ·rename_i c r
  simp only at h
  split at h
  ·cases h
  ·cases h
  ·split at h
   ·cases h
   ·split at h
    ·cases h
    ·injection h with h
     split at h <;> omega
theorem pkP_iff (l : List UInt8) (v : Int) : pkP l = some v ↔ (-9223372036854775808 ≤ v ∧ v ≤ 9223372036854775807) ∧ l = Lib.itoa v := by
 unfold pkP
 constructor
 ·intro h
  split at h
  ·rename_i m hm
   split at h
   ·rename_i he
    cases h
    exact ⟨parseInt_in hm, he.symm⟩
   ·cases h
  ·cases h
 ·rintro ⟨⟨h0, h1⟩, rfl⟩
  rw [parseInt_itoa v h0 h1]
  simp
theorem pk_iff (l : List UInt8) (v : Int) : pk l = some v ↔ (-9223372036854775808 ≤ v ∧ v ≤ 9223372036854775807) ∧ l = Lib.itoa v := by
 constructor
 ·intro h
  unfold pk at h
  split at h
  ·split at h
   ·rename_i n hn
    obtain ⟨k1, k2⟩ := (lrg_iff _ _).1 hn
    split at h
    ·cases h
    ·cases h
     exact ⟨by omega, by rw [itoa_neg n (by omega), k2]⟩
   ·cases h
  ·split at h
   ·rename_i n hn
    obtain ⟨k1, k2⟩ := (lrg_iff _ _).1 hn
    split at h
    ·cases h
     exact ⟨by omega, by rw [itoa_pos, k2]⟩
    ·cases h
   ·cases h
 ·rintro ⟨⟨h0, h1⟩, rfl⟩
  rcases int_cases v with ⟨n, rfl⟩ | ⟨n, hn, rfl⟩
  ·rw [itoa_pos]
   obtain ⟨c, r, hd, hc⟩ := head_dig n
   have hp := lrg_digits n (by omega)
   unfold pk
   split
   ·rename_i heq
    rw [hd] at heq
    injection heq with h45 _
    rw [h45] at hc
    have : (45 : UInt8).toNat = 45 := rfl
    omega
   ·rw [hp]
    simp only
    rw [if_pos (by omega)]
  ·rw [itoa_neg n hn]
   obtain ⟨c, r, hd, hc⟩ := head_dig n
   have hp := lrg_digits n (by omega)
   rw [hd] at hp ⊢
   rw [pk, hp]
   simp only
   rw [if_neg (by omega)]
theorem pk_eq (l : List UInt8) : pkP l = pk l := by
 apply Option.ext
 intro n
 rw [pkP_iff, pk_iff]
theorem pk_itoa (v : Int) (h0 : -9223372036854775808 ≤ v) (h1 : v ≤ 9223372036854775807) : pk (Lib.itoa v) = some v := (pk_iff _ v).2 ⟨⟨h0, h1⟩, rfl⟩
theorem itoa_no (v : Int) (x : UInt8) (h : x.toNat < 45) : x ∉ Lib.itoa v := by
 rcases int_cases v with ⟨n, rfl⟩ | ⟨n, hn, rfl⟩
 ·rw [itoa_pos]; exact decDigits_no n x (by omega)
 ·rw [itoa_neg n hn, List.mem_cons]
  rintro (rfl | h2)
  ·revert h; decide
  ·exact decDigits_no n x (by omega) h2
theorem itoa_ne (v : Int) : Lib.itoa v ≠ [] := by
 rcases int_cases v with ⟨n, rfl⟩ | ⟨n, hn, rfl⟩
 ·rw [itoa_pos]; exact decDigits_ne n
 ·rw [itoa_neg n hn]; simp
/-- a small number: up to 999999999 -/
def num (l : List UInt8) : Option Int :=
 match lrg l with
 | some n => if n ≤ 999999999 then some (n : Int) else none
 | none => none
theorem num_iff (l : List UInt8) (v : Int) : num l = some v ↔ (0 ≤ v ∧ v ≤ 999999999) ∧ l = Lib.itoa v := by
 unfold num
 constructor
 ·intro h
  split at h
  ·rename_i n hn
   obtain ⟨k1, k2⟩ := (lrg_iff _ _).1 hn
   split at h
   ·cases h
    exact ⟨by omega, by rw [itoa_pos, k2]⟩
   ·cases h
  ·cases h
 ·rintro ⟨⟨h0, h1⟩, rfl⟩
  rcases int_cases v with ⟨n, rfl⟩ | ⟨n, hn, rfl⟩
  ·rw [itoa_pos, lrg_digits n (by omega)]
   simp only
   rw [if_pos (by omega)]
  ·omega
theorem num_itoa (v : Int) (h0 : 0 ≤ v) (h1 : v ≤ 999999999) : num (Lib.itoa v) = some v := (num_iff _ v).2 ⟨⟨h0, h1⟩, rfl⟩
end Go.Proofs.YtkbedajbbakihaaGreatDoor

/-
 Plain facts on texts: splitting at the points, the digits back, the rights' letters back. No program in sight.
-/
namespace Go.Proofs.YtkbedajbbakihaaGreatDoor
open Go.RowKit Go.Sort Go.Lib

theorem index_app (a m : List UInt8) (h : (46 : UInt8) ∉ a) : Lib.index (a ++ 46 :: m) [46] = a.length := by
 induction a with
 | nil => rw [List.nil_append, Lib.index]; simp [List.isPrefixOf]
 | cons c r ih =>
  have hc : c ≠ 46 := fun e => h (by simp [e])
  have hr : (46 : UInt8) ∉ r := fun e => h (by simp [e])
  have hp : ([46] : List UInt8).isPrefixOf (c :: (r ++ 46 :: m)) = false := by simp [List.isPrefixOf, Ne.symm hc]
  rw [List.cons_append, Lib.index, hp, ih hr]
  simp
theorem ba_ext {x y : ByteArray} (h : x.data.toList = y.data.toList) : x = y := by
 apply ByteArray.ext
 exact Array.toList_inj.1 h
theorem split_parts (a b c : List UInt8) (ha : (46 : UInt8) ∉ a) (hb : (46 : UInt8) ∉ b) :
  Lib.splitB ⟨#[46]⟩ 0 2 ⟨(a ++ 46 :: (b ++ 46 :: c)).toArray⟩ = [⟨a.toArray⟩, ⟨b.toArray⟩, ⟨c.toArray⟩] := by
 have h46 : ByteArray.size ⟨#[46]⟩ = 1 := rfl
 have step : ∀ (k : Nat) (a m : List UInt8), (46 : UInt8) ∉ a → Lib.splitB ⟨#[46]⟩ 0 (k + 1) ⟨(a ++ 46 :: m).toArray⟩ = ⟨a.toArray⟩ :: Lib.splitB ⟨#[46]⟩ 0 k ⟨m.toArray⟩ := by
  intro k a m h
  have e1 : Lib.indexB ⟨(a ++ 46 :: m).toArray⟩ ⟨#[46]⟩ = (a.length : Nat) := by simpa [Lib.indexB] using index_app a m h
  have x1 : ByteArray.extract ⟨(a ++ 46 :: m).toArray⟩ 0 (a.length + 0) = ⟨a.toArray⟩ := ba_ext (by rw [Lib.extract_data]; simp)
  have x2 : ByteArray.extract ⟨(a ++ 46 :: m).toArray⟩ (a.length + ByteArray.size ⟨#[46]⟩) (ByteArray.size ⟨(a ++ 46 :: m).toArray⟩) = ⟨m.toArray⟩ := ba_ext (by
   rw [Lib.extract_to_end, h46]
   simp [List.drop_append])
  rw [Lib.splitB_hit _ _ _ _ _ e1, x1, x2]
 rw [step 1 a _ ha, step 0 b _ hb]
 rfl

/-- two points: three parts -/
theorem three_parts (l : List UInt8) (h : l.count 46 = 2) : ∃ a b c : List UInt8, l = a ++ 46 :: (b ++ 46 :: c) ∧ (46 : UInt8) ∉ a ∧ (46 : UInt8) ∉ b ∧ (46 : UInt8) ∉ c := by
 have hm : (46 : UInt8) ∈ l := by
  rw [← List.count_pos_iff]; omega
 obtain ⟨a, m, rfl, ha⟩ := List.eq_append_cons_of_mem hm
 have c0 : a.count 46 = 0 := List.count_eq_zero.2 ha
 rw [List.count_append, c0, List.count_cons_self] at h
 have hm2 : (46 : UInt8) ∈ m := by
  rw [← List.count_pos_iff]; omega
 obtain ⟨b, c, rfl, hb⟩ := List.eq_append_cons_of_mem hm2
 have c1 : b.count 46 = 0 := List.count_eq_zero.2 hb
 rw [List.count_append, c1, List.count_cons_self] at h
 exact ⟨a, b, c, rfl, ha, hb, List.count_eq_zero.1 (by omega)⟩
theorem parts_inj {a b c a' b' c' : List UInt8} (ha : (46 : UInt8) ∉ a) (hb : (46 : UInt8) ∉ b) (ha' : (46 : UInt8) ∉ a') (hb' : (46 : UInt8) ∉ b')
  (h : a ++ 46 :: (b ++ 46 :: c) = a' ++ 46 :: (b' ++ 46 :: c')) : a = a' ∧ b = b' ∧ c = c' := by
 have h1 := split_parts a b c ha hb
 rw [h, split_parts a' b' c' ha' hb'] at h1
 simp only [List.cons.injEq, ByteArray.mk.injEq, and_true] at h1
 obtain ⟨e1, e2, e3⟩ := h1
 refine ⟨?_, ?_, ?_⟩
 ·have := congrArg Array.toList e1; simpa using this.symm
 ·have := congrArg Array.toList e2; simpa using this.symm
 ·have := congrArg Array.toList e3; simpa using this.symm

theorem lettersR_no (r : Int) : (46 : UInt8) ∉ lettersR r := by
 unfold lettersR
 simp only [List.mem_append, not_or]
 refine ⟨?_, ?_, ?_⟩ <;> (split <;> simp)
theorem showH_count (t g : Nat) (r : Int) : (showH t g r).count 46 = 2 := by
 have h1 : (Lib.decDigits t).count 46 = 0 := List.count_eq_zero.2 (decDigits_no t 46 (by decide))
 have h2 : (Lib.decDigits g).count 46 = 0 := List.count_eq_zero.2 (decDigits_no g 46 (by decide))
 have h3 : (lettersR r).count 46 = 0 := List.count_eq_zero.2 (lettersR_no r)
 rw [showH, List.count_append, List.count_cons_self, List.count_append, List.count_cons_self, h1, h2, h3]

/-- the rights of a row of letters, as far as the first k are asked -/
def rK (c : List UInt8) (k : Nat) : Int := (if 0 < k ∧ 0 ≤ Lib.indexByte c 114 then 1 else 0) + ((if 1 < k ∧ 0 ≤ Lib.indexByte c 119 then 2 else 0) + (if 2 < k ∧ 0 ≤ Lib.indexByte c 115 then 4 else 0))
theorem rK_letters (r : Int) (h : 1 ≤ r ∧ r ≤ 7) : rK (lettersR r) 3 = r := by
 rcases seven r h with rfl | rfl | rfl | rfl | rfl | rfl | rfl <;> decide
theorem showH_inj {t g t' g' : Nat} {r r' : Int} (ho : okH t g r = true) (ho' : okH t' g' r' = true) (hg : g ≤ 4294967295) (hg' : g' ≤ 4294967295) (h : showH t g r = showH t' g' r') : t = t' ∧ g = g' ∧ r = r' := by
 have h1 := (okH_iff _ _ _).1 ho
 have h2 := (okH_iff _ _ _).1 ho'
 obtain ⟨e1, e2, e3⟩ := parts_inj (decDigits_no t 46 (by decide)) (decDigits_no g 46 (by decide)) (decDigits_no t' 46 (by decide)) (decDigits_no g' 46 (by decide)) h
 refine ⟨decDigits_inj t t' (by omega) (by omega) e1, decDigits_inj g g' (by omega) (by omega) e2, ?_⟩
 rw [← rK_letters r h1.2.2, e3, rK_letters r' h2.2.2]

/-- what reading a text ends with: the handle's three numbers and the error's -/
def ReadEnd (l : List UInt8) (x y z k : Int) : Prop :=
 (∃ t g : Nat, x = t ∧ y = g ∧ okH t g z = true ∧ g ≤ 4294967295 ∧ l = showH t g z ∧ k = 0) ∨
 (x = 0 ∧ y = 0 ∧ z = 0 ∧ k = 7 ∧ ∀ (t g : Nat) (r : Int), okH t g r = true → g ≤ 4294967295 → l ≠ showH t g r)
theorem ReadEnd.of_show {l : List UInt8} {x y z k : Int} (h : ReadEnd l x y z k) {t g : Nat} {r : Int} (ho : okH t g r = true) (hg : g ≤ 4294967295) (hl : l = showH t g r) : x = t ∧ y = g ∧ z = r ∧ k = 0 := by
 rcases h with ⟨t', g', rfl, rfl, ho', hg', hl', rfl⟩ | ⟨_, _, _, _, h⟩
 ·obtain ⟨e1, e2, e3⟩ := showH_inj ho' ho hg' hg (hl'.symm.trans hl)
  exact ⟨by rw [e1], by rw [e2], e3, rfl⟩
 ·exact absurd hl (h t g r ho hg)
theorem ReadEnd.of_not {l : List UInt8} {x y z k : Int} (h : ReadEnd l x y z k) (hn : ∀ (t g : Nat) (r : Int), okH t g r = true → g ≤ 4294967295 → l ≠ showH t g r) : x = 0 ∧ y = 0 ∧ z = 0 ∧ k = 7 := by
 rcases h with ⟨t', g', rfl, rfl, ho', hg', hl', rfl⟩ | ⟨h1, h2, h3, h4, _⟩
 ·exact absurd hl' (hn t' g' z ho' hg')
 ·exact ⟨h1, h2, h3, h4⟩
end Go.Proofs.YtkbedajbbakihaaGreatDoor
