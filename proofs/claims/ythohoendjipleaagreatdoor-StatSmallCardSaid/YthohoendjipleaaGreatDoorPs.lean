/-
  Plain: a text's words; the decimal and hexadecimal numbers that a word reads as. Conditions: none.
-/
import Derived.Lib.SplitLaws
import Derived.Lib.ItoaNum
namespace Go.Proofs.YthohoendjipleaaGreatDoor
open Go.Lib

/-! ### words at spaces -/
def spl : List UInt8 → List (List UInt8)
  | [] => [[]]
  | c :: r => if c = 32 then [] :: spl r else match spl r with
    | [] => [[c]]
    | h :: t => (c :: h) :: t
theorem spl_sp (r : List UInt8) : spl (32 :: r) = [] :: spl r := by simp [spl]
theorem spl_ch (c : UInt8) (h : c ≠ 32) (r a : List UInt8) (t : List (List UInt8)) (e : spl r = a :: t) : spl (c :: r) = (c :: a) :: t := by
  rw [spl, if_neg h, e]
theorem spl_ex (l : List UInt8) : ∃ a t, spl l = a :: t := by
  cases l with
  | nil => exact ⟨[], [], rfl⟩
  | cons c r =>
    by_cases h : c = 32
    · subst h; exact ⟨_, _, spl_sp r⟩
    · obtain ⟨a, t, e⟩ := spl_ex r
      exact ⟨_, _, spl_ch c h r a t e⟩
theorem splitK_spl : ∀ l : List UInt8, splitK [32] 0 (l.count 32) l = spl l
  | [] => rfl
  | c :: r => by
    have ih := splitK_spl r
    by_cases h : c = 32
    · subst h
      have hix : index (32 :: r) [32] = 0 := by rw [index]; simp [List.isPrefixOf]
      rw [List.count_cons_self, splitK, hix, if_neg (by decide), spl_sp, ← ih]
      rfl
    · rw [List.count_cons_of_ne (by simpa using h)]
      obtain ⟨a, t, e⟩ := spl_ex r
      rw [spl_ch c h r a t e]
      rw [e] at ih
      cases hk : r.count 32 with
      | zero =>
        rw [hk, splitK] at ih
        injection ih with h1 h2
        subst h1 h2
        rfl
      | succ k =>
        rw [hk] at ih
        have hp : ([32] : List UInt8).isPrefixOf (c :: r) = false := by simp [List.isPrefixOf, Ne.symm h]
        have hix : index (c :: r) [32] = if index r [32] == -1 then -1 else index r [32] + 1 := by rw [index, hp]; simp
        by_cases hm : index r [32] = -1
        · have := count_miss hm
          rw [count_one] at this
          omega
        · have hge := index_ge r [32]
          obtain ⟨j, hj⟩ : ∃ j : Nat, index r [32] = j := ⟨(index r [32]).toNat, by omega⟩
          have hb1 : (index r [32] == -1) = false := by simp [hm]
          have hix' : index (c :: r) [32] = ((j + 1 : Nat) : Int) := by rw [hix, hb1, hj]; simp
          have hb2 : (index (c :: r) [32] == -1) = false := by rw [hix']; simp; omega
          rw [splitK, hb1, if_neg (by simp), hj] at ih
          rw [splitK, hb2, if_neg (by simp), hix']
          simp only [Int.toNat_natCast, Nat.add_zero, List.length_cons, List.length_nil] at ih ⊢
          injection ih with h1 h2
          rw [List.take_succ_cons, h1, show j + 1 + (0 + 1) = (j + (0 + 1)) + 1 by omega, List.drop_succ_cons, h2]
theorem split_spl (l : List UInt8) : split l [32] = spl l := by
  unfold split
  rw [count_one]
  exact splitK_spl l
theorem spl_snoc_sp (l : List UInt8) : spl (l ++ [32]) = spl l ++ [[]] := by
  induction l with
  | nil => rfl
  | cons c r ih =>
    by_cases h : c = 32
    · subst h; rw [List.cons_append, spl_sp, spl_sp, ih]; rfl
    · obtain ⟨a, t, e⟩ := spl_ex r
      rw [e] at ih
      rw [List.cons_append, spl_ch c h _ _ _ ih, spl_ch c h _ _ _ e]
      rfl
/-- a word's last letter -/
def addL (ws : List (List UInt8)) (c : UInt8) : List (List UInt8) := ws.dropLast ++ [ws.getLastD [] ++ [c]]
theorem addL_cons2 (a b : List UInt8) (t : List (List UInt8)) (c : UInt8) : addL (a :: b :: t) c = a :: addL (b :: t) c := by
  simp [addL]
theorem spl_snoc_ch (l : List UInt8) (c : UInt8) (hc : c ≠ 32) : spl (l ++ [c]) = addL (spl l) c := by
  induction l with
  | nil => simp [spl, hc, addL]
  | cons d r ih =>
    obtain ⟨a, t, e⟩ := spl_ex r
    rw [e] at ih
    by_cases h : d = 32
    · subst h
      rw [List.cons_append, spl_sp, spl_sp, ih, e, addL_cons2]
    · rw [List.cons_append, spl_ch d h r a t e]
      cases t with
      | nil =>
        rw [spl_ch d h (r ++ [c]) (a ++ [c]) [] (by rw [ih]; simp [addL])]
        simp [addL]
      | cons b t =>
        rw [addL_cons2] at ih ⊢
        exact spl_ch d h _ _ _ ih
theorem spl_len (l : List UInt8) : (spl l).length = l.count 32 + 1 := by
  induction l with
  | nil => rfl
  | cons c r ih =>
    by_cases h : c = 32
    · subst h; rw [spl_sp, List.count_cons_self, List.length_cons, ih]
    · obtain ⟨a, t, e⟩ := spl_ex r
      rw [spl_ch c h r a t e, List.count_cons_of_ne (by simpa using h), ← ih, e]; rfl
/-- the letters of the words and the spaces between them -/
def sumL (ws : List (List UInt8)) : Nat := (ws.map List.length).sum
theorem spl_sum (l : List UInt8) : sumL (spl l) + l.count 32 = l.length := by
  induction l with
  | nil => rfl
  | cons c r ih =>
    by_cases h : c = 32
    · subst h; rw [spl_sp, List.count_cons_self]; simp only [sumL, List.map_cons, List.sum_cons, List.length_nil, List.length_cons] at ih ⊢; omega
    · obtain ⟨a, t, e⟩ := spl_ex r
      rw [e] at ih
      rw [spl_ch c h r a t e, List.count_cons_of_ne (by simpa using h)]
      simp only [sumL, List.map_cons, List.sum_cons, List.length_cons] at ih ⊢; omega

/-! ### decimal numbers -/
def nr (acc : Nat) : List UInt8 → Option Nat
  | [] => some acc
  | c :: r => if 48 ≤ c.toNat ∧ c.toNat ≤ 57 ∧ acc * 10 + (c.toNat - 48) ≤ 18446744073709551615 then nr (acc * 10 + (c.toNat - 48)) r else none
theorem nr_append (l m : List UInt8) (acc : Nat) : nr acc (l ++ m) = (nr acc l).bind fun a => nr a m := by
  induction l generalizing acc with
  | nil => rfl
  | cons c r ih =>
    rw [List.cons_append, nr, nr]
    split
    · exact ih _
    · rfl
theorem nr_le {acc : Nat} {l : List UInt8} {u : Nat} (h : nr acc l = some u) (ha : acc ≤ 18446744073709551615) : u ≤ 18446744073709551615 := by
  induction l generalizing acc with
  | nil => simp only [nr, Option.some.injEq] at h; omega
  | cons c r ih =>
    simp only [nr] at h
    split at h
    · rename_i hc; exact ih h hc.2.2
    · cases h
theorem digit_nat (k : Nat) (h : k < 10) : (UInt8.ofNat (48 + k)).toNat = 48 + k := by
  rw [UInt8.toNat_ofNat']; omega
theorem decDigits_last (u : Nat) : ∃ l, Lib.decDigits u = l ++ [UInt8.ofNat (48 + u % 10)] ∧ (l = [] ∨ l = Lib.decDigits (u / 10)) := by
  rw [Lib.decDigits]
  by_cases h : u < 10
  · rw [dif_pos h]
    exact ⟨[], by rw [Nat.mod_eq_of_lt h]; rfl, .inl rfl⟩
  · rw [dif_neg h]
    exact ⟨_, rfl, .inr rfl⟩
theorem decDigits_ne (u : Nat) : Lib.decDigits u ≠ [] := by
  obtain ⟨l, e, _⟩ := decDigits_last u
  rw [e]
  simp
theorem nr_digits (u : Nat) (h : u ≤ 18446744073709551615) : nr 0 (Lib.decDigits u) = some u := by
  induction u using Nat.strongRecOn with
  | ind u ih =>
    have hd := digit_nat (u % 10) (by omega)
    rw [Lib.decDigits]
    by_cases h10 : u < 10
    · rw [dif_pos h10]
      have hd := digit_nat u h10
      simp only [nr, hd]
      rw [if_pos (by omega)]
      congr 1
      omega
    · rw [dif_neg h10, nr_append, ih (u / 10) (by omega) (by omega)]
      simp only [Option.bind_some, nr, hd]
      rw [if_pos (by omega)]
      congr 1
      omega
/-- no zero ahead -/
def Canon (w : List UInt8) : Prop := ¬ (1 < w.length ∧ w.head? = some 48)
theorem nr_pos {l : List UInt8} {u : Nat} (h : nr 0 l = some u) (hl : l ≠ []) (h0 : l.head? ≠ some 48) : 0 < u := by
  cases l with
  | nil => exact absurd rfl hl
  | cons c r =>
    simp only [nr] at h
    split at h
    · rename_i hc
      have hcn : c.toNat ≠ 48 := fun e => h0 (by
        have : c = 48 := by apply UInt8.toNat.inj; rw [e]; rfl
        rw [this]; rfl)
      have hmono : ∀ (m : List UInt8) (a v : Nat), nr a m = some v → a ≤ v := by
        intro m
        induction m with
        | nil => intro a v hv; simp only [nr, Option.some.injEq] at hv; omega
        | cons d t ih =>
          intro a v hv
          simp only [nr] at hv
          split at hv
          · have := ih _ _ hv; omega
          · cases hv
      have := hmono _ _ _ h
      omega
    · cases h
theorem canon_digits : ∀ (n : Nat) (w : List UInt8) (u : Nat), w.length = n → w ≠ [] → Canon w → nr 0 w = some u → Lib.decDigits u = w := by
  intro n
  induction n with
  | zero => intro w u hn hw _ _; exact absurd (List.eq_nil_of_length_eq_zero hn) hw
  | succ n ih =>
    intro w u hn hw hc h
    obtain ⟨l, c, rfl⟩ : ∃ l c, w = l ++ [c] := ⟨w.dropLast, w.getLast hw, (List.dropLast_concat_getLast hw).symm⟩
    rw [nr_append] at h
    by_cases hl : l = []
    · subst hl
      simp only [nr, Option.bind_some] at h
      split at h
      · rename_i hd
        simp only [Option.some.injEq] at h
        rw [Lib.decDigits, dif_pos (by omega)]
        simp only [List.nil_append, List.cons.injEq, and_true]
        apply UInt8.toNat.inj
        rw [digit_nat u (by omega)]; omega
      · cases h
    · have hlen : l.length = n := by simpa using hn
      have hlh : (l ++ [c]).head? = l.head? := by cases l with
        | nil => exact absurd rfl hl
        | cons a b => rfl
      have hl0 : l.head? ≠ some 48 := fun e => hc ⟨by
        have : 0 < l.length := List.length_pos_iff.2 hl
        simp; omega, by rw [hlh]; exact e⟩
      cases hm : nr 0 l with
      | none => rw [hm] at h; cases h
      | some m =>
        rw [hm] at h
        simp only [nr, Option.bind_some] at h
        split at h
        · rename_i hd
          simp only [Option.some.injEq] at h
          have hmp := nr_pos hm hl hl0
          have e1 := ih l m hlen hl (fun hh => hl0 hh.2) hm
          rw [Lib.decDigits, dif_neg (by omega), show u / 10 = m by omega, e1, show u % 10 = c.toNat - 48 by omega]
          congr 2
          apply UInt8.toNat.inj
          rw [digit_nat _ (by omega)]; omega
        · cases h
theorem decDigits_canon (u : Nat) : Canon (Lib.decDigits u) := by
  induction u using Nat.strongRecOn with
  | ind u ih =>
    rintro ⟨h1, h2⟩
    rw [Lib.decDigits] at h1 h2
    by_cases h : u < 10
    · rw [dif_pos h] at h1; simp at h1
    · rw [dif_neg h] at h1 h2
      have hne := decDigits_ne (u / 10)
      have hh : (Lib.decDigits (u / 10) ++ [UInt8.ofNat (48 + u % 10)]).head? = (Lib.decDigits (u / 10)).head? := by
        cases e : Lib.decDigits (u / 10) with
        | nil => exact absurd e hne
        | cons a b => rfl
      rw [hh] at h2
      by_cases hlen : 1 < (Lib.decDigits (u / 10)).length
      · exact ih (u / 10) (by omega) ⟨hlen, h2⟩
      · by_cases h10 : u / 10 < 10
        · rw [Lib.decDigits, dif_pos h10] at h2
          simp only [List.head?_cons, Option.some.injEq] at h2
          have h3 := digit_nat (u / 10) h10
          rw [h2] at h3
          have : (48 : UInt8).toNat = 48 := rfl
          omega
        · rw [Lib.decDigits, dif_neg h10] at hlen
          have := List.length_pos_iff.2 (decDigits_ne (u / 10 / 10))
          rw [List.length_append, List.length_cons, List.length_nil] at hlen
          omega
/-- the number of a word without zeros ahead -/
def numD (w : List UInt8) : Option Nat := if w = [] ∨ (1 < w.length ∧ w.head? = some 48) then none else nr 0 w
theorem numD_le {w : List UInt8} {u : Nat} (h : numD w = some u) : u ≤ 18446744073709551615 := by
  unfold numD at h
  split at h
  · cases h
  · exact nr_le h (by omega)
theorem numD_digits (u : Nat) (h : u ≤ 18446744073709551615) : numD (Lib.decDigits u) = some u := by
  unfold numD
  rw [if_neg]
  · exact nr_digits u h
  · rintro (h1 | h1)
    · exact decDigits_ne u h1
    · exact decDigits_canon u h1
theorem numD_word {w : List UInt8} {u : Nat} (h : numD w = some u) : Lib.decDigits u = w := by
  unfold numD at h
  split at h
  · cases h
  · rename_i hn
    exact canon_digits _ w u rfl (fun e => hn (.inl e)) (fun e => hn (.inr e)) h
/-- read, and written again -/
theorem numD_iff {w : List UInt8} {u : Nat} (hw : w ≠ []) (h : nr 0 w = some u) : (Lib.decDigits u = w ∧ numD w = some u) ∨ (Lib.decDigits u ≠ w ∧ numD w = none) := by
  by_cases hc : 1 < w.length ∧ w.head? = some 48
  · refine .inr ⟨fun e => ?_, by unfold numD; rw [if_pos (.inr hc)]⟩
    rw [← e] at hc
    exact decDigits_canon u hc
  · exact .inl ⟨canon_digits _ w u rfl hw hc h, by unfold numD; rw [if_neg (fun e => e.elim hw hc)]; exact h⟩
theorem numD_none {w : List UInt8} (h : w = [] ∨ nr 0 w = none) : numD w = none := by
  unfold numD
  split
  · rfl
  · rename_i hn
    rcases h with h | h
    · exact absurd (.inl h) hn
    · exact h

/-! ### hexadecimal numbers of 16 digits -/
def hx (acc : Nat) : List UInt8 → Option Nat
  | [] => some acc
  | c :: r => if 48 ≤ c.toNat ∧ c.toNat ≤ 57 then hx (acc * 16 + (c.toNat - 48)) r else if 97 ≤ c.toNat ∧ c.toNat ≤ 102 then hx (acc * 16 + (c.toNat - 87)) r else none
def hexD (w : List UInt8) : Option Nat := if w.length = 16 then hx 0 w else none
theorem hx_lt {l : List UInt8} {acc u : Nat} (h : hx acc l = some u) : u < (acc + 1) * 16 ^ l.length := by
  induction l generalizing acc with
  | nil => simp only [hx, Option.some.injEq] at h; simp; omega
  | cons c r ih =>
    simp only [hx] at h
    have hp : 0 < 16 ^ r.length := Nat.pow_pos (by omega)
    rw [List.length_cons, Nat.pow_succ]
    split at h
    · have h1 := ih h
      have h2 : (acc * 16 + (c.toNat - 48) + 1) * 16 ^ r.length ≤ ((acc + 1) * 16) * 16 ^ r.length := Nat.mul_le_mul_right _ (by omega)
      have h3 : (acc + 1) * (16 ^ r.length * 16) = ((acc + 1) * 16) * 16 ^ r.length := by rw [Nat.mul_comm (16 ^ r.length) 16, Nat.mul_assoc]
      omega
    · split at h
      · have h1 := ih h
        have h2 : (acc * 16 + (c.toNat - 87) + 1) * 16 ^ r.length ≤ ((acc + 1) * 16) * 16 ^ r.length := Nat.mul_le_mul_right _ (by omega)
        have h3 : (acc + 1) * (16 ^ r.length * 16) = ((acc + 1) * 16) * 16 ^ r.length := by rw [Nat.mul_comm (16 ^ r.length) 16, Nat.mul_assoc]
        omega
      · cases h
theorem hexD_lt {w : List UInt8} {u : Nat} (h : hexD w = some u) : u < 18446744073709551616 := by
  unfold hexD at h
  split at h
  · rename_i hl
    have := hx_lt h
    rw [hl] at this
    exact this
  · cases h
end Go.Proofs.YthohoendjipleaaGreatDoor
