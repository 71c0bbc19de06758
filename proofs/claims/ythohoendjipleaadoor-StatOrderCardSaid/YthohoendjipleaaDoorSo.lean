/-
  A stable insertion sort of the indices, and the order of loads: plain. Conditions: a strict weak order.
-/
import Derived.Sort.LotA
import Derived.Test.YthohoendjipleaaDoorLs
namespace Go.Proofs.YthohoendjipleaaDoor
open Go.Sort
set_option linter.unusedSimpArgs false

variable {m : Nat}
/-- the order with ties by index -/
def tieR (lt : Fin (m + 1) → Fin (m + 1) → Bool) : Fin (m + 1) → Fin (m + 1) → Bool := fun x y => lt x y || (!lt y x && decide (x.val < y.val))
theorem tie_true {lt : Fin (m + 1) → Fin (m + 1) → Bool} {x y : Fin (m + 1)} : tieR lt x y = true ↔ lt x y = true ∨ (lt y x = false ∧ x.val < y.val) := by
  unfold tieR; cases lt x y <;> cases lt y x <;> simp
theorem tie_false {lt : Fin (m + 1) → Fin (m + 1) → Bool} {x y : Fin (m + 1)} : tieR lt x y = false ↔ lt x y = false ∧ (lt y x = true ∨ ¬ x.val < y.val) := by
  unfold tieR; cases lt x y <;> cases lt y x <;> simp
theorem tie_swo {lt : Fin (m + 1) → Fin (m + 1) → Bool} (h : SWO lt) : SWO (tieR lt) where
  irrefl x := by rw [tie_false]; exact ⟨h.irrefl x, .inr (by omega)⟩
  trans x y z h1 h2 := by
    rw [tie_true] at *
    cases h3 : lt x z with
    | true => exact .inl rfl
    | false =>
      refine .inr ?_
      rcases h1 with h1 | ⟨h1, h1'⟩
      · rcases h2 with h2 | ⟨h2, h2'⟩
        · have := h.trans _ _ _ h1 h2; rw [h3] at this; cases this
        · have := h.ntrans _ _ _ h3 h2; rw [h1] at this; cases this
      · rcases h2 with h2 | ⟨h2, h2'⟩
        · have := h.ntrans _ _ _ h1 h3; rw [h2] at this; cases this
        · exact ⟨h.ntrans _ _ _ h2 h1, by omega⟩
  ntrans x y z h1 h2 := by
    rw [tie_false] at *
    refine ⟨h.ntrans _ _ _ h1.1 h2.1, ?_⟩
    cases h3 : lt z x with
    | true => exact .inl rfl
    | false =>
      refine .inr ?_
      rcases h1 with ⟨h1, h1' | h1'⟩
      · have := h.ntrans _ _ _ h2.1 h3; rw [h1'] at this; cases this
      · rcases h2 with ⟨h2, h2' | h2'⟩
        · have := h.ntrans _ _ _ h3 h1; rw [h2'] at this; cases this
        · omega

theorem insInner_tie (lt : Fin (m + 1) → Fin (m + 1) → Bool) : ∀ (j : Nat) (d : Array (Fin (m + 1))), j < d.size → (∀ p, p < j → (d[p]!).val < (d[j]!).val) → insInner lt 0 j d = insInner (tieR lt) 0 j d
  | 0, d, _, _ => rfl
  | j + 1, d, hj, h => by
    unfold insInner
    have h1 := h j (by omega)
    have e : tieR lt d[j + 1]! d[j]! = lt d[j + 1]! d[j]! := by
      unfold tieR
      rw [show decide ((d[j + 1]!).val < (d[j]!).val) = false by simp; omega]
      simp
    rw [e, insInner_tie lt j (swp d (j + 1) j) (by rw [size_swp]; omega) (fun p hp => ?_)]
    rw [swp_other _ _ _ _ (by omega) (by omega), swp_right _ _ _ (by omega)]
    exact h p (by omega)
theorem insInner_perm (lt : Fin (m + 1) → Fin (m + 1) → Bool) (i : Nat) : ∀ (j : Nat) (d : Array (Fin (m + 1))), j ≤ i → i < d.size → PermIn 0 (i + 1) d (insInner lt 0 j d)
  | 0, d, _, _ => permIn_refl d 0 (i + 1)
  | j + 1, d, hj, hi => by
    unfold insInner
    split
    · exact permIn_trans _ _ _ _ _ (swp_permIn d 0 (i + 1) (j + 1) j (by omega) (by omega) (by omega) (by omega) (by omega)) (insInner_perm lt i j _ (by omega) (by rw [size_swp]; exact hi))
    · exact permIn_refl d 0 (i + 1)
theorem insOuter_tie (lt : Fin (m + 1) → Fin (m + 1) → Bool) : ∀ (k i : Nat) (d : Array (Fin (m + 1))), m + 1 - i = k → d.size = m + 1 → (∀ p, p < i → p < m + 1 → (d[p]!).val < i) → (∀ p, i ≤ p → p < m + 1 → (d[p]!).val = p) →
    insOuter lt 0 (m + 1) i d = insOuter (tieR lt) 0 (m + 1) i d
  | 0, i, d, hk, _, _, _ => by
    have e1 : ∀ f : Fin (m + 1) → Fin (m + 1) → Bool, insOuter f 0 (m + 1) i d = d := fun f => by rw [insOuter, if_neg (by omega)]
    rw [e1 lt, e1 (tieR lt)]
  | k + 1, i, d, hk, hs, h1, h2 => by
    have hi : i < m + 1 := by omega
    have e1 : ∀ f : Fin (m + 1) → Fin (m + 1) → Bool, insOuter f 0 (m + 1) i d = insOuter f 0 (m + 1) (i + 1) (insInner f 0 i d) := fun f => by rw [insOuter, if_pos hi]
    rw [e1 lt, e1 (tieR lt)]
    have e := insInner_tie lt i d (by omega) (fun p hp => by rw [h2 i (Nat.le_refl _) hi]; exact h1 p hp (by omega))
    rw [← e]
    have hp := insInner_perm lt i i d (Nat.le_refl _) (by omega)
    refine insOuter_tie lt k (i + 1) _ (by omega) (by rw [hp.1]; exact hs) (fun p hp1 _ => ?_) (fun p hp1 hp2 => ?_)
    · refine permIn_all d _ 0 (i + 1) (fun x => x.val < i + 1) (by omega) hp (fun q _ hq => ?_) p (by omega) hp1
      by_cases hqi : q = i
      · subst hqi; have := h2 q (Nat.le_refl _) hi; omega
      · have := h1 q (by omega) (by omega); omega
    · rw [hp.2.1 p (.inr hp1)]
      exact h2 p (by omega) hp2
/-- the indices in order -/
def idx (m : Nat) : Array (Fin (m + 1)) := Array.ofFn (fun i => i)
theorem idx_size (m : Nat) : (idx m).size = m + 1 := by simp [idx]
theorem idx_get (m p : Nat) (h : p < m + 1) : ((idx m)[p]!).val = p := by
  have : (idx m)[p]? = some ⟨p, h⟩ := by simp [idx, h]
  rw [getElem!_def, this]
/-- the ranking -/
def rkO (lt : Fin (m + 1) → Fin (m + 1) → Bool) : Array (Fin (m + 1)) := insertionSort lt (idx m) 0 (m + 1)
theorem rkO_tie (lt : Fin (m + 1) → Fin (m + 1) → Bool) : rkO lt = rkO (tieR lt) := by
  unfold rkO insertionSort
  refine insOuter_tie lt _ _ _ rfl (idx_size m) (fun p hp h => ?_) (fun p hp h => idx_get m p h)
  rw [idx_get m p h]; exact hp
theorem nodup_get (d : Array (Fin (m + 1))) (h : (d.extract 0 (m + 1)).toList.Nodup) (hs : d.size = m + 1) (p q : Nat) (hp : p < m + 1) (hq : q < m + 1) (e : d[p]! = d[q]!) : p = q := by
  rw [extract_toList d 0 (m + 1) (by omega)] at h
  rw [List.nodup_iff_pairwise_ne, List.pairwise_map] at h
  simp only [Nat.sub_zero] at h
  rw [List.pairwise_iff_getElem] at h
  rcases Nat.lt_trichotomy p q with hlt | heq | hgt
  · have := h p q (by simpa using hp) (by simpa using hq) hlt
    simp at this
    exact absurd e this
  · exact heq
  · have := h q p (by simpa using hq) (by simpa using hp) hgt
    simp at this
    exact absurd e.symm this
theorem idx_nodup (m : Nat) : ((idx m).extract 0 (m + 1)).toList.Nodup := by
  rw [extract_toList (idx m) 0 (m + 1) (by rw [idx_size]; omega), List.nodup_iff_pairwise_ne, List.pairwise_map, List.pairwise_iff_getElem]
  intro i j hi hj hij he
  simp only [List.length_range', Nat.sub_zero] at hi hj
  have := congrArg Fin.val he
  rw [idx_get _ _ (by simpa using hi), idx_get _ _ (by simpa using hj)] at this
  simp at this
  omega
/-- the law of the ranking -/
theorem rk_law (lt : Fin (m + 1) → Fin (m + 1) → Bool) (hS : SWO lt) :
    (rkO lt).size = m + 1 ∧ (∀ p q, p < m + 1 → q < m + 1 → (rkO lt)[p]! = (rkO lt)[q]! → p = q) ∧
      ∀ k, k + 1 < m + 1 → lt (rkO lt)[k + 1]! (rkO lt)[k]! = false ∧ (lt (rkO lt)[k]! (rkO lt)[k + 1]! = true ∨ ((rkO lt)[k]!).val ≤ ((rkO lt)[k + 1]!).val) := by
  have h := insertionSort_holds (lt := tieR lt) (tie_swo hS) (idx m) 0 (m + 1) (by omega) (by rw [idx_size]; omega)
  have e : insertionSort (tieR lt) (idx m) 0 (m + 1) = rkO lt := (rkO_tie lt).symm
  rw [e] at h
  obtain ⟨⟨h1, h2, h3⟩, h4⟩ := h
  rw [idx_size] at h1
  refine ⟨h1, fun p q hp hq he => nodup_get _ (h3.nodup_iff.2 (idx_nodup m)) h1 p q hp hq he, fun k hk => ?_⟩
  have := tie_false.1 (h4 k (k + 1) (by omega) (by omega) hk)
  refine ⟨this.1, ?_⟩
  rcases this.2 with h | h
  · exact .inl h
  · exact .inr (by omega)

/-- the order of loads is a strict weak order -/
theorem lessO_cases (a b c d : Int) : lessO (compare a b) (compare c d) = decide (a < b ∨ (a = b ∧ c < d)) := by
  rcases Int.lt_trichotomy a b with h | h | h
  · rw [cmp_lt h]; simp [lessO, h]
  · subst h
    rcases Int.lt_trichotomy c d with g | g | g
    · rw [show compare a a = Ordering.eq by simp, cmp_lt g]; simp [lessO, g]
    · subst g; simp [lessO]
    · rw [show compare a a = Ordering.eq by simp, cmp_gt g]; simp [lessO]; omega
  · rw [cmp_gt h]
    simp [lessO]; omega
theorem lessL_iff (a b a' b' : Nat) : lessL a b a' b' = decide (keyW (smS a b) < keyW (smS a' b') ∨ (keyW (smS a b) = keyW (smS a' b') ∧ keyW (smX a b) < keyW (smX a' b'))) := lessO_cases _ _ _ _
/-- more active first -/
def ltR (A B : Nat → Nat) : Fin (m + 1) → Fin (m + 1) → Bool := fun x y => lessL (A y.val) (B y.val) (A x.val) (B x.val)
theorem ltR_swo (A B : Nat → Nat) : SWO (ltR (m := m) A B) where
  irrefl x := by unfold ltR; rw [lessL_iff]; simp
  trans x y z h1 h2 := by unfold ltR at *; rw [lessL_iff] at *; simp only [decide_eq_true_eq] at *; omega
  ntrans x y z h1 h2 := by unfold ltR at *; rw [lessL_iff] at *; simp only [decide_eq_false_iff_not] at *; omega
end Go.Proofs.YthohoendjipleaaDoor
