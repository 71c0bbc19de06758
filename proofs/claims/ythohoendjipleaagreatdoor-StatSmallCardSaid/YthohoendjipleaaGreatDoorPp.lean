/-
  Plain: what the words of a Stat's text say. Conditions: none.
-/
import Derived.Test.YthohoendjipleaaGreatDoorFm
import Derived.Test.YthohoendjipleaaGreatDoorPs
namespace Go.Proofs.YthohoendjipleaaGreatDoor
open Go.RowKit

def ldW : List UInt8 := [108, 111, 97, 100]
def wrd (ws : List (List UInt8)) (k : Nat) : List UInt8 := ws.getD k []
def fieldOK (ws : List (List UInt8)) (j : Nat) : Prop := wrd ws (2 * j) = nm j ∧ ∃ u, numD (wrd ws (2 * j + 1)) = some u
def headOK (ws : List (List UInt8)) : Prop := ws.length = 23 ∧ wrd ws 20 = ldW
def tailOK (ws : List (List UInt8)) : Prop := (∃ u, hexD (wrd ws 21) = some u) ∧ ∃ u, hexD (wrd ws 22) = some u
def okW (ws : List (List UInt8)) : Prop := headOK ws ∧ (∀ j, j < 10 → fieldOK ws j) ∧ tailOK ws
def pX (ws : List (List UInt8)) (j : Nat) : Int := (((numD (wrd ws (2 * j + 1))).getD 0 : Nat) : Int)
def pA (ws : List (List UInt8)) : Nat := (hexD (wrd ws 21)).getD 0
def pB (ws : List (List UInt8)) : Nat := (hexD (wrd ws 22)).getD 0
/-- the error, and the Stat -/
def smallW (ws : List (List UInt8)) : Prop := pA ws ≤ W2 ∧ pB ws ≤ W2
open Classical in
noncomputable def prC (ws : List (List UInt8)) : Int := if okW ws then if smallW ws then 0 else 4 else 7
open Classical in
noncomputable def prX (ws : List (List UInt8)) : Nat → Int := if prC ws = 0 then pX ws else fun _ => 0
open Classical in
noncomputable def prA (ws : List (List UInt8)) : Nat := if prC ws = 0 then pA ws else 0
open Classical in
noncomputable def prB (ws : List (List UInt8)) : Nat := if prC ws = 0 then pB ws else 0
/-- the three ends -/
theorem prC_syn {ws : List (List UInt8)} (h : ¬ okW ws) : prC ws = 7 := by unfold prC; rw [if_neg h]
theorem prC_shp {ws : List (List UInt8)} (h : okW ws) (k : ¬ smallW ws) : prC ws = 4 := by unfold prC; rw [if_pos h, if_neg k]
theorem prC_ok {ws : List (List UInt8)} (h : okW ws) (k : smallW ws) : prC ws = 0 := by unfold prC; rw [if_pos h, if_pos k]
theorem pr_bad {ws : List (List UInt8)} (h : prC ws ≠ 0) : prX ws = (fun _ => 0) ∧ prA ws = 0 ∧ prB ws = 0 := by
  unfold prX prA prB; rw [if_neg h, if_neg h, if_neg h]; exact ⟨rfl, rfl, rfl⟩
theorem pr_ok {ws : List (List UInt8)} (h : prC ws = 0) : prX ws = pX ws ∧ prA ws = pA ws ∧ prB ws = pB ws := by
  unfold prX prA prB; rw [if_pos h, if_pos h, if_pos h]; exact ⟨rfl, rfl, rfl⟩
theorem prC_three (ws : List (List UInt8)) : prC ws = 0 ∨ prC ws = 4 ∨ prC ws = 7 := by
  by_cases h : okW ws
  · by_cases k : smallW ws
    · exact .inl (prC_ok h k)
    · exact .inr (.inl (prC_shp h k))
  · exact .inr (.inr (prC_syn h))
theorem prC_zero {ws : List (List UInt8)} (h : prC ws = 0) : okW ws ∧ smallW ws := by
  by_cases h1 : okW ws
  · by_cases k : smallW ws
    · exact ⟨h1, k⟩
    · rw [prC_shp h1 k] at h; exact absurd h (by decide)
  · rw [prC_syn h1] at h; exact absurd h (by decide)
theorem pX_in (ws : List (List UInt8)) (j : Nat) : 0 ≤ pX ws j ∧ pX ws j ≤ 18446744073709551615 := by
  unfold pX
  cases h : numD (wrd ws (2 * j + 1)) with
  | none => simp
  | some u =>
    have := numD_le h
    simp only [Option.getD_some]
    omega
theorem pX_some {ws : List (List UInt8)} {j u : Nat} (h : numD (wrd ws (2 * j + 1)) = some u) : pX ws j = (u : Int) := by
  unfold pX; rw [h]; rfl
theorem prX_ok (ws : List (List UInt8)) : okX (prX ws) := by
  intro j
  by_cases h : prC ws = 0
  · rw [(pr_ok h).1]; exact pX_in ws j
  · rw [(pr_bad h).1]; exact ⟨Int.le_refl _, (by decide : (0 : Int) ≤ 18446744073709551615)⟩
theorem prA_le (ws : List (List UInt8)) : prA ws ≤ W2 ∧ prB ws ≤ W2 := by
  by_cases h : prC ws = 0
  · rw [(pr_ok h).2.1, (pr_ok h).2.2]; exact (prC_zero h).2
  · rw [(pr_bad h).2.1, (pr_bad h).2.2]; exact ⟨by unfold W2; omega, by unfold W2; omega⟩
/-- a text that says a Stat is short -/
theorem numD_len {w : List UInt8} {u : Nat} (h : numD w = some u) : w.length ≤ 20 := by
  rw [← numD_word h]
  exact digits_le u (by have := numD_le h; omega)
theorem hexD_len {w : List UInt8} {u : Nat} (h : hexD w = some u) : w.length = 16 := by
  unfold hexD at h
  split at h
  · assumption
  · cases h
theorem sum_bound (ws : List (List UInt8)) (h : ∀ x ∈ ws, x.length ≤ 20) : sumL ws ≤ 20 * ws.length := by
  induction ws with
  | nil => simp [sumL]
  | cons a t ih =>
    have h1 := h a (by simp)
    have h2 := ih (fun x hx => h x (by simp [hx]))
    simp only [sumL, List.map_cons, List.sum_cons, List.length_cons] at h2 ⊢
    omega
theorem okW_len {ws : List (List UInt8)} (h : okW ws) : sumL ws ≤ 460 := by
  obtain ⟨⟨h23, h20⟩, hf, ⟨u, hu⟩, ⟨v, hv⟩⟩ := h
  have hb := sum_bound ws (fun x hx => by
    obtain ⟨i, hi, rfl⟩ := List.getElem_of_mem hx
    have ei : ws[i] = wrd ws i := by simp [wrd, List.getD_eq_getElem?_getD, List.getElem?_eq_getElem hi]
    rw [ei]
    rw [h23] at hi
    by_cases h2 : i < 20
    · obtain ⟨hn, z, hz⟩ := hf (i / 2) (by omega)
      by_cases ho : i % 2 = 0
      · have : wrd ws i = nm (i / 2) := by rw [← hn]; congr 1; omega
        rw [this]
        have := nm_len (i / 2)
        omega
      · have e2 : 2 * (i / 2) + 1 = i := by omega
        rw [e2] at hz
        exact numD_len hz
    · have h3 : i = 20 ∨ i = 21 ∨ i = 22 := by omega
      rcases h3 with rfl | rfl | rfl
      · rw [h20]; decide
      · have := hexD_len hu; omega
      · have := hexD_len hv; omega)
  omega
theorem okW_short {l : List UInt8} (h : okW (spl l)) : l.length ≤ 600 := by
  have h1 := spl_sum l
  have h2 := spl_len l
  have h3 := okW_len h
  rw [h.1.1] at h2
  omega
end Go.Proofs.YthohoendjipleaaGreatDoor
