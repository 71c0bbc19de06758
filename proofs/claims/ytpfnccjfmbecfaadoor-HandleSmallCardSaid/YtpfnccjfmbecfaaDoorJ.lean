/-
  Plain facts on texts: splitting at the points, the digits back, the rights' letters back. No program in sight.
-/
import Derived.Test.YtpfnccjfmbecfaaDoorI
import Derived.Lib.SplitLaws
import Derived.Lib.ParseIntBCases
namespace Go.Proofs.YtpfnccjfmbecfaaDoor
open Go.RowKit Go.Sort Go.Lib

theorem digit_nat (k : Nat) (h : k < 10) : (UInt8.ofNat (48 + k)).toNat = 48 + k := by
  rw [UInt8.toNat_ofNat']; omega
theorem decDigits_last (u : Nat) : ∃ l, Lib.decDigits u = l ++ [UInt8.ofNat (48 + u % 10)] ∧ (l = [] ∧ u < 10 ∨ l = Lib.decDigits (u / 10) ∧ 10 ≤ u) := by
  rw [Lib.decDigits]
  by_cases h : u < 10
  · rw [dif_pos h]
    exact ⟨[], by rw [Nat.mod_eq_of_lt h]; rfl, .inl ⟨rfl, h⟩⟩
  · rw [dif_neg h]
    exact ⟨_, rfl, .inr ⟨rfl, by omega⟩⟩
theorem decDigits_ne (u : Nat) : Lib.decDigits u ≠ [] := by
  obtain ⟨l, e, _⟩ := decDigits_last u
  rw [e]
  simp
theorem decDigits_in (u : Nat) : ∀ c ∈ Lib.decDigits u, 48 ≤ c.toNat ∧ c.toNat ≤ 57 := by
  induction u using Nat.strongRecOn with
  | ind u ih =>
    obtain ⟨l, e, hl⟩ := decDigits_last u
    intro c hc
    rw [e, List.mem_append, List.mem_singleton] at hc
    rcases hc with hc | rfl
    · rcases hl with ⟨rfl, _⟩ | ⟨rfl, h10⟩
      · cases hc
      · exact ih (u / 10) (by omega) c hc
    · rw [digit_nat _ (by omega)]; omega
theorem decDigits_no (u : Nat) (x : UInt8) (h : x.toNat < 48) : x ∉ Lib.decDigits u := fun hm => by
  have := decDigits_in u x hm
  omega

theorem pm_append (M : Nat) (l m : List UInt8) : ∀ acc n, Lib.parseUintM M acc l = .ok n → Lib.parseUintM M acc (l ++ m) = Lib.parseUintM M n m := by
  induction l with
  | nil => intro acc n h; simp only [Lib.parseUintM] at h; injection h with h; subst h; rfl
  | cons c r ih =>
    intro acc n h
    simp only [Lib.parseUintM, List.cons_append] at h ⊢
    split at h
    · rename_i h1
      rw [if_pos h1]
      split at h
      · cases h
      · rename_i h2
        rw [if_neg h2]
        split at h
        · cases h
        · rename_i h3
          rw [if_neg h3]
          exact ih _ _ h
    · cases h
theorem pm_digits (M u : Nat) (h : u ≤ M) (hM : M ≤ 4294967295) : Lib.parseUintM M 0 (Lib.decDigits u) = .ok u := by
  induction u using Nat.strongRecOn with
  | ind u ih =>
    have hd := digit_nat (u % 10) (by omega)
    obtain ⟨l, e, hl⟩ := decDigits_last u
    rw [e]
    rcases hl with ⟨rfl, h10⟩ | ⟨rfl, h10⟩
    · simp only [List.nil_append, Lib.parseUintM, hd]
      rw [if_pos (by omega), if_neg (by omega), if_neg (by omega)]
      congr 1
      omega
    · rw [pm_append M _ _ _ _ (ih (u / 10) (by omega) (by omega))]
      simp only [Lib.parseUintM, hd]
      rw [if_pos (by omega), if_neg (by omega), if_neg (by omega)]
      congr 1
      omega
theorem pb_digits8 (u : Nat) (h : u ≤ 255) : Lib.parseUintB 8 (Lib.decDigits u) = .ok u := by
  rw [Lib.parseUintB, if_neg (decDigits_ne u)]
  exact pm_digits 255 u h (by omega)
theorem pb_digits32 (u : Nat) (h : u ≤ 4294967295) : Lib.parseUintB 32 (Lib.decDigits u) = .ok u := by
  rw [Lib.parseUintB, if_neg (decDigits_ne u)]
  exact pm_digits 4294967295 u h (by omega)
theorem decDigits_inj (t u : Nat) (ht : t ≤ 4294967295) (hu : u ≤ 4294967295) (h : Lib.decDigits t = Lib.decDigits u) : t = u := by
  have h1 := pb_digits32 t ht
  have h2 := pb_digits32 u hu
  rw [h, h2] at h1
  injection h1 with h1
  exact h1.symm

theorem index_app (a m : List UInt8) (h : (46 : UInt8) ∉ a) : Lib.index (a ++ 46 :: m) [46] = a.length := by
  induction a with
  | nil => rw [List.nil_append, Lib.index]; simp [List.isPrefixOf]
  | cons c r ih =>
    have hc : c ≠ 46 := fun e => h (by simp [e])
    have hr : (46 : UInt8) ∉ r := fun e => h (by simp [e])
    have hp : ([46] : List UInt8).isPrefixOf (c :: (r ++ 46 :: m)) = false := by simp [List.isPrefixOf, Ne.symm hc]
    rw [List.cons_append, Lib.index, hp, ih hr]
    simp
theorem ba_ext {x y : ByteArray} (h : x.data.toList = y.data.toList) : x = y := by
  apply ByteArray.ext
  exact Array.toList_inj.1 h
theorem split_parts (a b c : List UInt8) (ha : (46 : UInt8) ∉ a) (hb : (46 : UInt8) ∉ b) :
    Lib.splitB ⟨#[46]⟩ 0 2 ⟨(a ++ 46 :: (b ++ 46 :: c)).toArray⟩ = [⟨a.toArray⟩, ⟨b.toArray⟩, ⟨c.toArray⟩] := by
  have h46 : ByteArray.size ⟨#[46]⟩ = 1 := rfl
  have step : ∀ (k : Nat) (a m : List UInt8), (46 : UInt8) ∉ a → Lib.splitB ⟨#[46]⟩ 0 (k + 1) ⟨(a ++ 46 :: m).toArray⟩ = ⟨a.toArray⟩ :: Lib.splitB ⟨#[46]⟩ 0 k ⟨m.toArray⟩ := by
    intro k a m h
    have e1 : Lib.indexB ⟨(a ++ 46 :: m).toArray⟩ ⟨#[46]⟩ = (a.length : Nat) := by simpa [Lib.indexB] using index_app a m h
    have x1 : ByteArray.extract ⟨(a ++ 46 :: m).toArray⟩ 0 (a.length + 0) = ⟨a.toArray⟩ := ba_ext (by rw [Lib.extract_data]; simp)
    have x2 : ByteArray.extract ⟨(a ++ 46 :: m).toArray⟩ (a.length + ByteArray.size ⟨#[46]⟩) (ByteArray.size ⟨(a ++ 46 :: m).toArray⟩) = ⟨m.toArray⟩ := ba_ext (by
      rw [Lib.extract_to_end, h46]
      simp [List.drop_append])
    rw [Lib.splitB_hit _ _ _ _ _ e1, x1, x2]
  rw [step 1 a _ ha, step 0 b _ hb]
  rfl

/-- two points: three parts -/
theorem three_parts (l : List UInt8) (h : l.count 46 = 2) : ∃ a b c : List UInt8, l = a ++ 46 :: (b ++ 46 :: c) ∧ (46 : UInt8) ∉ a ∧ (46 : UInt8) ∉ b ∧ (46 : UInt8) ∉ c := by
  have hm : (46 : UInt8) ∈ l := by
    rw [← List.count_pos_iff]; omega
  obtain ⟨a, m, rfl, ha⟩ := List.eq_append_cons_of_mem hm
  have c0 : a.count 46 = 0 := List.count_eq_zero.2 ha
  rw [List.count_append, c0, List.count_cons_self] at h
  have hm2 : (46 : UInt8) ∈ m := by
    rw [← List.count_pos_iff]; omega
  obtain ⟨b, c, rfl, hb⟩ := List.eq_append_cons_of_mem hm2
  have c1 : b.count 46 = 0 := List.count_eq_zero.2 hb
  rw [List.count_append, c1, List.count_cons_self] at h
  exact ⟨a, b, c, rfl, ha, hb, List.count_eq_zero.1 (by omega)⟩
theorem parts_inj {a b c a' b' c' : List UInt8} (ha : (46 : UInt8) ∉ a) (hb : (46 : UInt8) ∉ b) (ha' : (46 : UInt8) ∉ a') (hb' : (46 : UInt8) ∉ b')
    (h : a ++ 46 :: (b ++ 46 :: c) = a' ++ 46 :: (b' ++ 46 :: c')) : a = a' ∧ b = b' ∧ c = c' := by
  have h1 := split_parts a b c ha hb
  rw [h, split_parts a' b' c' ha' hb'] at h1
  simp only [List.cons.injEq, ByteArray.mk.injEq, and_true] at h1
  obtain ⟨e1, e2, e3⟩ := h1
  refine ⟨?_, ?_, ?_⟩
  · have := congrArg Array.toList e1; simpa using this.symm
  · have := congrArg Array.toList e2; simpa using this.symm
  · have := congrArg Array.toList e3; simpa using this.symm

theorem lettersR_no (r : Int) : (46 : UInt8) ∉ lettersR r := by
  unfold lettersR
  simp only [List.mem_append, not_or]
  refine ⟨?_, ?_, ?_⟩ <;> (split <;> simp)
theorem showH_count (t g : Nat) (r : Int) : (showH t g r).count 46 = 2 := by
  have h1 : (Lib.decDigits t).count 46 = 0 := List.count_eq_zero.2 (decDigits_no t 46 (by decide))
  have h2 : (Lib.decDigits g).count 46 = 0 := List.count_eq_zero.2 (decDigits_no g 46 (by decide))
  have h3 : (lettersR r).count 46 = 0 := List.count_eq_zero.2 (lettersR_no r)
  rw [showH, List.count_append, List.count_cons_self, List.count_append, List.count_cons_self, h1, h2, h3]

/-- the rights of a row of letters, as far as the first k are asked -/
def rK (c : List UInt8) (k : Nat) : Int := (if 0 < k ∧ 0 ≤ Lib.indexByte c 114 then 1 else 0) + ((if 1 < k ∧ 0 ≤ Lib.indexByte c 119 then 2 else 0) + (if 2 < k ∧ 0 ≤ Lib.indexByte c 115 then 4 else 0))
theorem rK_letters (r : Int) (h : 1 ≤ r ∧ r ≤ 7) : rK (lettersR r) 3 = r := by
  rcases seven r h with rfl | rfl | rfl | rfl | rfl | rfl | rfl <;> decide
theorem rK_le (c : List UInt8) (k : Nat) : 0 ≤ rK c k ∧ rK c k ≤ 7 := by
  unfold rK
  constructor <;> (split <;> split <;> split <;> omega)

theorem showH_inj {t g t' g' : Nat} {r r' : Int} (ho : okH t g r = true) (ho' : okH t' g' r' = true) (hg : g ≤ 4294967295) (hg' : g' ≤ 4294967295) (h : showH t g r = showH t' g' r') : t = t' ∧ g = g' ∧ r = r' := by
  have h1 := (okH_iff _ _ _).1 ho
  have h2 := (okH_iff _ _ _).1 ho'
  obtain ⟨e1, e2, e3⟩ := parts_inj (decDigits_no t 46 (by decide)) (decDigits_no g 46 (by decide)) (decDigits_no t' 46 (by decide)) (decDigits_no g' 46 (by decide)) h
  refine ⟨decDigits_inj t t' (by omega) (by omega) e1, decDigits_inj g g' hg hg' e2, ?_⟩
  rw [← rK_letters r h1.2.2, e3, rK_letters r' h2.2.2]

/-- what reading a text ends with: the handle's three numbers and the error's -/
def ReadEnd (l : List UInt8) (x y z k : Int) : Prop :=
  (∃ t g : Nat, x = t ∧ y = g ∧ okH t g z = true ∧ g ≤ 4294967295 ∧ l = showH t g z ∧ k = 0) ∨
  (x = 0 ∧ y = 0 ∧ z = 0 ∧ k = 7 ∧ ∀ (t g : Nat) (r : Int), okH t g r = true → g ≤ 4294967295 → l ≠ showH t g r)
theorem readEnd_any (l : List UInt8) : ∃ x y z k, ReadEnd l x y z k := by
  by_cases h : ∃ (t g : Nat) (r : Int), okH t g r = true ∧ g ≤ 4294967295 ∧ l = showH t g r
  · obtain ⟨t, g, r, h1, h2, h3⟩ := h
    exact ⟨t, g, r, 0, .inl ⟨t, g, rfl, rfl, h1, h2, h3, rfl⟩⟩
  · exact ⟨0, 0, 0, 7, .inr ⟨rfl, rfl, rfl, rfl, fun t g r h1 h2 h3 => h ⟨t, g, r, h1, h2, h3⟩⟩⟩
theorem ReadEnd.of_show {l : List UInt8} {x y z k : Int} (h : ReadEnd l x y z k) {t g : Nat} {r : Int} (ho : okH t g r = true) (hg : g ≤ 4294967295) (hl : l = showH t g r) : x = t ∧ y = g ∧ z = r ∧ k = 0 := by
  rcases h with ⟨t', g', rfl, rfl, ho', hg', hl', rfl⟩ | ⟨_, _, _, _, h⟩
  · obtain ⟨e1, e2, e3⟩ := showH_inj ho' ho hg' hg (hl'.symm.trans hl)
    exact ⟨by rw [e1], by rw [e2], e3, rfl⟩
  · exact absurd hl (h t g r ho hg)
theorem ReadEnd.of_not {l : List UInt8} {x y z k : Int} (h : ReadEnd l x y z k) (hn : ∀ (t g : Nat) (r : Int), okH t g r = true → g ≤ 4294967295 → l ≠ showH t g r) : x = 0 ∧ y = 0 ∧ z = 0 ∧ k = 7 := by
  rcases h with ⟨t', g', rfl, rfl, ho', hg', hl', rfl⟩ | ⟨h1, h2, h3, h4, _⟩
  · exact absurd hl' (hn t' g' z ho' hg')
  · exact ⟨h1, h2, h3, h4⟩
end Go.Proofs.YtpfnccjfmbecfaaDoor
