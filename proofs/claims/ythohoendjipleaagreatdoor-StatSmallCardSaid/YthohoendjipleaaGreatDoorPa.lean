/-
  stat's part: the float of 16 hexadecimal digits. Conditions: the word is shorter than 2^47 bytes; the two errors' variables hold interface values.
-/
import Derived.Test.YthohoendjipleaaGreatDoorPt
namespace Go.Proofs.YthohoendjipleaaGreatDoor
open Go.RowKit Go.Sort Go.Lib
set_option linter.unusedSimpArgs false
set_option linter.unusedVariables false

def PaEnd (r : Option Nat) (e : Ending) : Prop :=
  match r with
  | some u => e = .returned (.tuple #[.float .f64 u, .bool true])
  | none => ∃ f : Nat, e = .returned (.tuple #[.float .f64 f, .bool false])
theorem orL_low (n : Nat) (h : 97 ≤ n) (h2 : n ≤ 102) : orL n = n := by unfold orL; rw [if_pos (by omega)]
theorem lower_same (c : UInt8) (h : ¬ (65 ≤ c.toNat ∧ c.toNat ≤ 90)) : lowerB c = c := by
  apply lowerB_of_not
  rw [isUpperB_int]
  by_cases h1 : 65 ≤ c.toNat
  · have : ¬ c.toNat ≤ 90 := fun k => h ⟨h1, k⟩
    simp; intro; omega
  · simp; intro; omega
theorem lower_other (c : UInt8) (h : 65 ≤ c.toNat ∧ c.toNat ≤ 90) : lowerB c ≠ c := by
  have e : isUpperB c = true := by rw [isUpperB_int]; simp; omega
  unfold lowerB
  rw [e, if_pos rfl]
  intro k
  have := congrArg UInt8.toNat k
  rw [UInt8.toNat_add] at this
  have h32 : (32 : UInt8).toNat = 32 := rfl
  omega
theorem hx_ph (l : List UInt8) : ∀ (acc u : Nat), l.length ≤ 16 → acc < 16 ^ (16 - l.length) → hx acc l = some u → ph acc l = some u ∧ toLowerA l = l := by
  induction l with
  | nil => intro acc u _ _ h; exact ⟨h, rfl⟩
  | cons c r ih =>
    intro acc u hl ha h
    simp only [List.length_cons] at hl ha
    have hp : 16 ^ (16 - r.length) = 16 ^ (16 - (r.length + 1)) * 16 := by
      rw [← Nat.pow_succ]; congr 1; omega
    have ha15 : acc < 1152921504606846976 := Nat.lt_of_lt_of_le ha (by
      have : (1152921504606846976 : Nat) = 16 ^ 15 := by decide
      rw [this]
      exact Nat.pow_le_pow_right (by omega) (by omega))
    simp only [hx] at h
    split at h
    · rename_i hd
      have hdv : dv c = some (c.toNat - 48) := by unfold dv; rw [if_pos hd]
      obtain ⟨h1, h2⟩ := ih _ _ (by omega) (by omega) h
      refine ⟨?_, ?_⟩
      · rw [ph, hdv]; simp only; rw [if_pos ha15]; exact h1
      · rw [toLowerA, List.map_cons, lower_same c (by omega)]; congr 1
    · rename_i hd
      split at h
      · rename_i hd2
        have hdv : dv c = some (c.toNat - 87) := by unfold dv; rw [if_neg hd, orL_low _ hd2.1 hd2.2, if_pos hd2]
        obtain ⟨h1, h2⟩ := ih _ _ (by omega) (by omega) h
        refine ⟨?_, ?_⟩
        · rw [ph, hdv]; simp only; rw [if_pos ha15]; exact h1
        · rw [toLowerA, List.map_cons, lower_same c (by omega)]; congr 1
      · cases h
theorem dv_cases {c : UInt8} {d : Nat} (h : dv c = some d) : (48 ≤ c.toNat ∧ c.toNat ≤ 57 ∧ d = c.toNat - 48) ∨ (97 ≤ c.toNat ∧ c.toNat ≤ 102 ∧ d = c.toNat - 87) ∨ (65 ≤ c.toNat ∧ c.toNat ≤ 70) := by
  unfold dv at h
  split at h
  · rename_i hd
    simp only [Option.some.injEq] at h
    exact .inl ⟨hd.1, hd.2, h.symm⟩
  · split at h
    · rename_i hd hl
      simp only [Option.some.injEq] at h
      have hc := c.toNat_lt
      unfold orL at hl h
      split at hl
      · rename_i h5
        rw [if_pos h5] at h
        exact .inr (.inl ⟨hl.1, hl.2, h.symm⟩)
      · exact .inr (.inr ⟨by omega, by omega⟩)
    · cases h
theorem ph_cons {c : UInt8} {r : List UInt8} {acc u : Nat} (h : ph acc (c :: r) = some u) : ∃ d, dv c = some d ∧ ph (acc * 16 + d) r = some u := by
  rw [ph] at h
  split at h
  · cases h
  · rename_i d hd
    split at h
    · exact ⟨d, hd, h⟩
    · cases h
theorem ph_hx (l : List UInt8) : ∀ (acc u : Nat), ph acc l = some u → toLowerA l = l → hx acc l = some u := by
  induction l with
  | nil => intro acc u h _; exact h
  | cons c r ih =>
    intro acc u h hl
    obtain ⟨d, hd, h1⟩ := ph_cons h
    rw [toLowerA, List.map_cons, List.cons.injEq] at hl
    have h2 := ih _ _ h1 hl.2
    rcases dv_cases hd with ⟨a, b, rfl⟩ | ⟨a, b, rfl⟩ | ⟨a, b⟩
    · rw [hx, if_pos ⟨a, b⟩]; exact h2
    · rw [hx, if_neg (by omega), if_pos ⟨a, b⟩]; exact h2
    · exact absurd hl.1 (lower_other c ⟨a, by omega⟩)
theorem ph_ascii (l : List UInt8) : ∀ (acc u : Nat), ph acc l = some u → ∀ c ∈ l, c.toNat < 128 := by
  induction l with
  | nil => intro _ _ _ c hc; cases hc
  | cons b r ih =>
    intro acc u h c hc
    obtain ⟨d, hd, h1⟩ := ph_cons h
    rcases List.mem_cons.1 hc with rfl | hc
    · rcases dv_cases hd with ⟨a, b, _⟩ | ⟨a, b, _⟩ | ⟨a, b⟩ <;> omega
    · exact ih _ _ h1 c hc
theorem hexD_none {l : List UInt8} (h : phAll l = none) : hexD l = none := by
  cases e : hexD l with
  | none => rfl
  | some u =>
    unfold hexD at e
    split at e
    · rename_i hl
      have h1 := (hx_ph l 0 u (by omega) (by rw [hl]; decide) e).1
      unfold phAll at h
      rw [if_neg (by intro hn; rw [hn] at hl; cases hl), h1] at h
      cases h
    · cases e
set_option maxRecDepth 100000 in
theorem part_is (S : ByteArray) (hlim : S.size ≤ 140737488355328) (w : World) (he : Errs w) : Calls Tryz.prog 35 #[.string S] w fun e w' => PaEnd (hexD S.data.toList) e ∧ Later w w' := by
  have hsz := Lib.size_eq S
  cases hr : phAll S.data.toList with
  | none =>
    rw [hexD_none hr]
    exact (part_err S hlim hr w he).mono fun e w' ⟨⟨f, _, h1⟩, h2⟩ => ⟨⟨f, h1⟩, h2⟩
  | some u =>
    by_cases hs : S.size = 16
    · have hne : S.data.toList ≠ [] := by
        intro h
        rw [h] at hsz
        rw [hs] at hsz
        cases hsz
      have hph : ph 0 S.data.toList = some u := by
        unfold phAll at hr
        rw [if_neg hne] at hr
        exact hr
      have hasc : ∀ (j : Nat) (b : UInt8), S.data.toList[j]? = some b → b.toNat < 128 := fun j b hb => ph_ascii _ _ _ hph b (List.mem_of_getElem? hb)
      have hlow := fun w => Tryz.strings_ToLower_ascii S w hlim hasc
      by_cases hl : toLowerA S.data.toList = S.data.toList
      · have hx0 : hexD S.data.toList = some u := by
          unfold hexD
          rw [if_pos (by omega)]
          exact ph_hx _ _ _ hph hl
        rw [hx0]
        have hb : (S.toList == (⟨(toLowerA S.data.toList).toArray⟩ : ByteArray).toList) = true := by
          rw [hl]
          exact beq_iff_eq.2 rfl
        exact part_16 S _ u true hr hs hlow hb w he
      · have hx0 : hexD S.data.toList = none := by
          unfold hexD
          rw [if_pos (by omega)]
          cases e : hx 0 S.data.toList with
          | none => rfl
          | some v => exact absurd (hx_ph _ 0 v (by omega) (by rw [← hsz, hs]; decide) e).2 hl
        rw [hx0]
        have hb : (S.toList == (⟨(toLowerA S.data.toList).toArray⟩ : ByteArray).toList) = false := by
          rw [beq_eq_false_iff_ne]
          intro h
          rw [ByteArray.toList_eq, ByteArray.toList_eq] at h
          exact hl (by simpa using h.symm)
        exact (part_16 S _ u false hr hs hlow hb w he).mono fun e w' ⟨h1, h2⟩ => ⟨⟨u, h1⟩, h2⟩
    · have hx0 : hexD S.data.toList = none := by
        unfold hexD
        rw [if_neg (by omega)]
      rw [hx0]
      exact (part_short S hlim u hr hs w he).mono fun e w' ⟨h1, h2⟩ => ⟨⟨u, h1⟩, h2⟩
end Go.Proofs.YthohoendjipleaaGreatDoor
