/-
  Layer 15: both packages tell the same of two loads. Conditions: the words are those of numbers from 0 to 2.
-/
import Derived.Test.YtmjpjjnhlgidcaaI
import Derived.Test.YtmjpjjnhlgidcaaLs
namespace Go.Proofs.Ytmjpjjnhlgidcaa
open Go.RowKit Go.Sort
set_option linter.unusedSimpArgs false
set_option linter.unusedVariables false

theorem sm_keys (a b : Nat) (ha : a ≤ W2) (hb : b ≤ W2) : keyW (smS a b) = (rdN (valW a + valW b) : Int) ∧ keyW (smX a b) = ((valW a + valW b : Nat) : Int) - rdN (valW a + valW b) := by
  have hMm : valW (max a b) + valW (min a b) = valW a + valW b := by
    rcases Nat.le_total a b with h | h
    · rw [Nat.max_eq_right h, Nat.min_eq_left h, Nat.add_comm]
    · rw [Nat.max_eq_left h, Nat.min_eq_right h]
  obtain ⟨s, d, x, h1, h2, h3, _, _, k1, k2⟩ := two_sum (max a b) (min a b) (by omega) (by omega)
  have es : smS a b = s := by unfold smS; rw [h1]; rfl
  have ed : smD a b = d := by unfold smD; rw [es, h2]; rfl
  have ex : smX a b = x := by unfold smX; rw [ed, h3]; rfl
  rw [es, ex, ← hMm]
  exact ⟨k1, k2⟩
theorem lessO_eq (p q u v : Int) : lessO (compare p q) (compare u v) = decide (p < q ∨ (p = q ∧ u < v)) := by
  rcases Int.lt_trichotomy p q with h | h | h
  · rw [Int.compare_eq_lt.2 h]; simp [lessO, h]
  · subst h
    rw [show compare p p = Ordering.eq by simp]
    rcases Int.lt_trichotomy u v with h | h | h
    · rw [Int.compare_eq_lt.2 h]; simp [lessO, h]
    · subst h; simp [lessO]
    · rw [Int.compare_eq_gt.2 h]; simp [lessO]; omega
  · rw [Int.compare_eq_gt.2 h]; simp [lessO]; omega
theorem lessL_eq (a b a' b' : Nat) (ha : a ≤ W2) (hb : b ≤ W2) (ha' : a' ≤ W2) (hb' : b' ≤ W2) : lessL a b a' b' = decide (valW a + valW b < valW a' + valW b') := by
  obtain ⟨k1, k2⟩ := sm_keys a b ha hb
  obtain ⟨k3, k4⟩ := sm_keys a' b' ha' hb'
  unfold lessL
  rw [k1, k2, k3, k4, lessO_eq]
  exact decide_eq_decide.2 (sums_order _ _)
set_option maxRecDepth 100000 in
set_option maxHeartbeats 1000000 in
theorem two_of (a b a' b' : Nat) (p q : Bool)
    (L1 : ∀ w, Calls Try.prog 23 #[.complex .f64 a b, .complex .f64 a' b'] w fun e w' => e = .returned (.bool p) ∧ w = w')
    (L2 : ∀ w, Calls Try.prog 24 #[.complex .f64 a b, .complex .f64 a' b'] w fun e w' => e = .returned (.bool p) ∧ Later w w')
    (L3 : ∀ w, Calls Try.prog 23 #[.complex .f64 a' b', .complex .f64 a b] w fun e w' => e = .returned (.bool q) ∧ w = w')
    (L4 : ∀ w, Calls Try.prog 24 #[.complex .f64 a' b', .complex .f64 a b] w fun e w' => e = .returned (.bool q) ∧ Later w w') (w : World) :
    Calls Try.prog 8 #[.complex .f64 a b, .complex .f64 a' b'] w fun e w' => e = .returned (.bool true) ∧ Later w w' := by
  have C1 := Lib.hid (And.intro L1 (And.intro L2 (And.intro L3 L4)))
  clear L1 L2 L3 L4
  have hp : (p == p) = true := by simp
  have hq : (q == q) = true := by simp
  go_enter Try.func8, Try.ntmps8
  go_wp2_with fail
  refine (C1.out.1 _).mono ?_
  rintro e w1 ⟨rfl, rfl⟩
  go_wp2_with fail
  refine (C1.out.2.1 _).mono ?_
  rintro e w1 ⟨rfl, hl1⟩
  go_wp2_with fail
  refine (C1.out.2.2.1 _).mono ?_
  rintro e w2 ⟨rfl, rfl⟩
  go_wp2_with fail
  refine (C1.out.2.2.2 _).mono ?_
  rintro e w2 ⟨rfl, hl2⟩
  go_wp2_with fail
  go_ret
  exact ⟨rfl, hl1.trans hl2⟩
theorem two_is (a b a' b' : Nat) (ha : a ≤ W2) (hb : b ≤ W2) (ha' : a' ≤ W2) (hb' : b' ≤ W2) (w : World) : Calls Try.prog 8 #[.complex .f64 a b, .complex .f64 a' b'] w fun e w' => e = .returned (.bool true) ∧ Later w w' :=
  two_of a b a' b' _ _ (fun w => by rw [← lessL_eq a b a' b' ha hb ha' hb']; exact Less_is a b a' b' ha hb ha' hb' w) (fun w => refLess_is a b a' b' ha hb ha' hb' w)
    (fun w => by rw [← lessL_eq a' b' a b ha' hb' ha hb]; exact Less_is a' b' a b ha' hb' ha hb w) (fun w => refLess_is a' b' a b ha' hb' ha hb w) w
end Go.Proofs.Ytmjpjjnhlgidcaa
