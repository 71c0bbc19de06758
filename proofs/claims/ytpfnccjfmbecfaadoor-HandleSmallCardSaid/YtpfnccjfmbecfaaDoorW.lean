/-
  What the reference's Read makes of a text, in plain words. Conditions: none.
-/
import Derived.Test.YtpfnccjfmbecfaaDoorN
namespace Go.Proofs.YtpfnccjfmbecfaaDoor
open Go.RowKit Go.Sort Go.Lib

/-- the three numbers, the field, the rights -/
structure RS where
  a : Int
  b : Int
  c : Int
  f : Nat
  r : Int
def digR (x : Int) (ch : UInt8) : Int := (x * 10 + ((ch.toNat : Int) - 48)) % 1099511627776
def RS.step (s : RS) (ch : UInt8) : RS :=
  if ch.toNat = 46 then { s with f := min (s.f + 1) 2 }
  else if 48 ≤ ch.toNat ∧ ch.toNat ≤ 57 then
    (if s.f = 0 then { s with a := digR s.a ch } else if s.f = 1 then { s with b := digR s.b ch } else { s with c := digR s.c ch })
  else if ch.toNat = 114 then { s with r := bits .or .i64 s.r 1 }
  else if ch.toNat = 119 then { s with r := bits .or .i64 s.r 2 }
  else if ch.toNat = 115 then { s with r := bits .or .i64 s.r 4 }
  else s
def RS.run (l : List UInt8) : RS := l.foldl RS.step ⟨0, 0, 0, 0, 0⟩
def RS.ok (s : RS) : Prop := ((0 ≤ s.a ∧ s.a < 1099511627776) ∧ (0 ≤ s.b ∧ s.b < 1099511627776) ∧ (0 ≤ s.c ∧ s.c < 1099511627776)) ∧ s.f ≤ 2 ∧ 0 ≤ s.r ∧ s.r ≤ 7

theorem eight (r : Int) (h : 0 ≤ r ∧ r ≤ 7) : r = 0 ∨ r = 1 ∨ r = 2 ∨ r = 3 ∨ r = 4 ∨ r = 5 ∨ r = 6 ∨ r = 7 := by omega
theorem or_le (r q : Int) (h : 0 ≤ r ∧ r ≤ 7) (hq : q = 1 ∨ q = 2 ∨ q = 4) : 0 ≤ bits .or .i64 r q ∧ bits .or .i64 r q ≤ 7 := by
  rcases eight r h with rfl | rfl | rfl | rfl | rfl | rfl | rfl | rfl <;> rcases hq with rfl | rfl | rfl <;> decide
theorem digR_le (x : Int) (ch : UInt8) : 0 ≤ digR x ch ∧ digR x ch < 1099511627776 := by unfold digR; omega
theorem RS.step_ok (s : RS) (ch : UInt8) (h : s.ok) : (s.step ch).ok := by
  obtain ⟨⟨h1, h2, h3⟩, h4, h5, h6⟩ := h
  unfold RS.step
  split
  · exact ⟨⟨h1, h2, h3⟩, by show min (s.f + 1) 2 ≤ 2; omega, h5, h6⟩
  split
  · split
    · exact ⟨⟨digR_le _ _, h2, h3⟩, h4, h5, h6⟩
    split
    · exact ⟨⟨h1, digR_le _ _, h3⟩, h4, h5, h6⟩
    · exact ⟨⟨h1, h2, digR_le _ _⟩, h4, h5, h6⟩
  split
  · exact ⟨⟨h1, h2, h3⟩, h4, or_le _ _ ⟨h5, h6⟩ (by omega)⟩
  split
  · exact ⟨⟨h1, h2, h3⟩, h4, or_le _ _ ⟨h5, h6⟩ (by omega)⟩
  split
  · exact ⟨⟨h1, h2, h3⟩, h4, or_le _ _ ⟨h5, h6⟩ (by omega)⟩
  · exact ⟨⟨h1, h2, h3⟩, h4, h5, h6⟩
theorem RS.fold_ok (l : List UInt8) : ∀ s : RS, s.ok → (l.foldl RS.step s).ok := by
  induction l with
  | nil => exact fun s h => h
  | cons c r ih => exact fun s h => ih _ (s.step_ok c h)
theorem RS.run_ok (l : List UInt8) : (RS.run l).ok := RS.fold_ok l _ ⟨⟨by simp, by simp, by simp⟩, by simp, by simp, by simp⟩
theorem RS.run_snoc (l : List UInt8) (c : UInt8) : RS.run (l ++ [c]) = (RS.run l).step c := by simp [RS.run, List.foldl_append]

theorem ofNat_toNat (n : Nat) (h : n < 10) : (UInt8.ofNat (48 + n)).toNat = 48 + n := by simp; omega
theorem digits_0 (b c : Int) (r : Int) (n : Nat) (hn : n < 1099511627776) : (Lib.decDigits n).foldl RS.step ⟨0, b, c, 0, r⟩ = ⟨n, b, c, 0, r⟩ := by
  induction n using Nat.strongRecOn with
  | ind n ih =>
    rw [Lib.decDigits]
    split
    · have e := ofNat_toNat n (by omega)
      simp only [List.foldl_cons, List.foldl_nil, RS.step, e]
      rw [if_neg (by omega), if_pos (by omega), if_pos trivial, digR, e]
      congr 1
      omega
    · have e := ofNat_toNat (n % 10) (by omega)
      rw [List.foldl_append, ih (n / 10) (by omega) (by omega)]
      simp only [List.foldl_cons, List.foldl_nil, RS.step, e]
      rw [if_neg (by omega), if_pos (by omega), if_pos trivial, digR, e]
      congr 1
      omega
theorem digits_1 (a c : Int) (r : Int) (n : Nat) (hn : n < 1099511627776) : (Lib.decDigits n).foldl RS.step ⟨a, 0, c, 1, r⟩ = ⟨a, n, c, 1, r⟩ := by
  induction n using Nat.strongRecOn with
  | ind n ih =>
    rw [Lib.decDigits]
    split
    · have e := ofNat_toNat n (by omega)
      simp only [List.foldl_cons, List.foldl_nil, RS.step, e]
      rw [if_neg (by omega), if_pos (by omega), if_neg (by simp), if_pos trivial, digR, e]
      congr 1
      omega
    · have e := ofNat_toNat (n % 10) (by omega)
      rw [List.foldl_append, ih (n / 10) (by omega) (by omega)]
      simp only [List.foldl_cons, List.foldl_nil, RS.step, e]
      rw [if_neg (by omega), if_pos (by omega), if_neg (by simp), if_pos trivial, digR, e]
      congr 1
      omega
theorem letters_2 (a b c : Int) (r : Int) (h : 1 ≤ r ∧ r ≤ 7) : (lettersR r).foldl RS.step ⟨a, b, c, 2, 0⟩ = ⟨a, b, c, 2, r⟩ := by
  rcases seven r h with rfl | rfl | rfl | rfl | rfl | rfl | rfl <;> kernel_rfl
theorem point (s : RS) : s.step 46 = { s with f := min (s.f + 1) 2 } := by simp [RS.step]
/-- a handle's text is read as the handle -/
theorem RS.run_show (t g : Nat) (r : Int) (ho : okH t g r = true) (hg : g ≤ 4294967295) : RS.run (showH t g r) = ⟨t, g, 0, 2, r⟩ := by
  have h := (okH_iff _ _ _).1 ho
  rw [RS.run, showH, List.foldl_append, digits_0 _ _ _ t (by omega), List.foldl_cons, point, List.foldl_append]
  have e : (min ((⟨t, 0, 0, 0, 0⟩ : RS).f + 1) 2) = 1 := rfl
  rw [e]
  rw [digits_1 _ _ _ g (by omega), List.foldl_cons, point]
  have e2 : (min ((⟨t, g, 0, 1, 0⟩ : RS).f + 1) 2) = 2 := rfl
  rw [e2]
  exact letters_2 _ _ _ r h.2.2

/-- the reference's answer, where the second number is too great -/
theorem refEnd_great (l : List UInt8) (h : ¬ (RS.run l).b < 4294967296) : ReadEnd l 0 0 0 7 :=
  .inr ⟨rfl, rfl, rfl, rfl, fun t g r ho hg e => by
    rw [e, RS.run_show t g r ho hg] at h
    simp only at h
    omega⟩
/-- where the handle is not valid -/
theorem refEnd_bad (l : List UInt8) (h : okH (RS.run l).a (RS.run l).b (RS.run l).r = false) : ReadEnd l 0 0 0 7 :=
  .inr ⟨rfl, rfl, rfl, rfl, fun t g r ho hg e => by
    rw [e, RS.run_show t g r ho hg] at h
    simp only at h
    rw [ho] at h; cases h⟩
/-- where its text is another one -/
theorem refEnd_other (l : List UInt8) (h : l ≠ showH (RS.run l).a.toNat (RS.run l).b.toNat (RS.run l).r) : ReadEnd l 0 0 0 7 :=
  .inr ⟨rfl, rfl, rfl, rfl, fun t g r ho hg e => by
    rw [e, RS.run_show t g r ho hg] at h
    exact h rfl⟩
end Go.Proofs.YtpfnccjfmbecfaaDoor
