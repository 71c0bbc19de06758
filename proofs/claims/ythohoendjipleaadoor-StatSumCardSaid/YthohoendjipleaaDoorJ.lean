/-
  Package stat: Join. Conditions: the numbers are words; the parts of the loads are from 0 to 2.
-/
import Derived.Test.YthohoendjipleaaDoorJo
import Derived.Test.YthohoendjipleaaDoorFd
namespace Go.Proofs.YthohoendjipleaaDoor
open Go.RowKit
set_option linter.unusedSimpArgs false

/-- what Join's loop keeps: the sum (block S), the other (block S + 1), the result (block S + 2), the pointers (blocks Co, Cp) -/
def JI (w V : World) (S Co Cp : Nat) (x z : Nat → Int) (a b a' b' : Nat) : Prop :=
  Later w V ∧ (w.heap.size ≤ S ∧ S + 2 < Co ∧ Co < V.heap.size ∧ S + 2 < Cp ∧ Cp < V.heap.size) ∧
  (∀ j, j < 10 → V.cell? ⟨S, j, none⟩ = some (.int .u64 (x j))) ∧ V.cell? ⟨S, 10, none⟩ = some (.complex .f64 a b) ∧ (∀ j, j < 11 → V.frozen? ⟨S, j, none⟩ = false) ∧
  (∀ j, j < 10 → V.cell? ⟨S + 1, j, none⟩ = some (.int .u64 (z j))) ∧ V.cell? ⟨S + 1, 10, none⟩ = some (.complex .f64 a' b') ∧
  V.heap[S + 2]? = some (.cells ZST 29 (0, 0)) ∧
  (∀ j, j < 10 → V.cell? ⟨Co, j, none⟩ = some (.pointer (some ⟨S + 1, j, none⟩))) ∧ (∀ j, j < 10 → V.cell? ⟨Cp, j, none⟩ = some (.pointer (some ⟨S, j, none⟩)))
theorem JI.later {w V U : World} {S Co Cp : Nat} {x z : Nat → Int} {a b a' b' : Nat} (h : JI w V S Co Cp x z a b a' b') (hl : Later V U) : JI w U S Co Cp x z a b a' b' := by
  obtain ⟨h1, ⟨h2, h3, h4, h5, h6⟩, hs, hs10, hf, ho, ho10, hr, hco, hcp⟩ := h
  refine ⟨h1.trans hl, ⟨h2, h3, Nat.lt_of_lt_of_le h4 hl.size, h5, Nat.lt_of_lt_of_le h6 hl.size⟩, fun j hj => cell_at hl (hs j hj) (by show S < _; omega), cell_at hl hs10 (by show S < _; omega), fun j hj => frz_at hl (hf j hj) (by show S < _; omega), fun j hj => cell_at hl (ho j hj) (by show S + 1 < _; omega), cell_at hl ho10 (by show S + 1 < _; omega), (Below.block hl _ (by omega)).trans hr, fun j hj => cell_at hl (hco j hj) h4, fun j hj => cell_at hl (hcp j hj) h6⟩
theorem JI.set {w V : World} {S Co Cp : Nat} {x z : Nat → Int} {a b a' b' : Nat} (h : JI w V S Co Cp x z a b a' b') (j : Nat) (hj : j < 10) (v : Int) : JI w (V.setCell ⟨S, j, none⟩ (.int .u64 v)) S Co Cp (upd x j v) z a b a' b' := by
  obtain ⟨h1, ⟨h2, h3, h4, h5, h6⟩, hs, hs10, hf, ho, ho10, hr, hco, hcp⟩ := h
  refine ⟨h1.setCell _ _ h2, ⟨h2, h3, by rw [set_size]; exact h4, h5, by rw [set_size]; exact h6⟩, fun i hi => ?_, by rw [set_off _ _ _ _ _ (by omega)]; exact hs10, fun i hi => by simpa using hf i hi, fun i hi => by rw [set_other _ _ _ _ _ _ (by omega)]; exact ho i hi, by rw [set_other _ _ _ _ _ _ (by omega)]; exact ho10, (Below.heap_setCell V _ _ _ (by show S + 2 ≠ S; omega)).trans hr, fun i hi => by rw [set_other _ _ _ _ _ _ (by omega)]; exact hco i hi, fun i hi => by rw [set_other _ _ _ _ _ _ (by omega)]; exact hcp i hi⟩
  by_cases e : i = j
  · subst e
    rw [upd_same]
    exact World.cell?_setCell_same V _ _ (hs i hi)
  · rw [set_off _ _ _ _ _ e, upd_other _ _ _ _ e]; exact hs i hi
theorem JI.load {w V : World} {S Co Cp : Nat} {x z : Nat → Int} {a b a' b' : Nat} (h : JI w V S Co Cp x z a b a' b') (p q : Nat) : JI w (V.setCell ⟨S, 10, none⟩ (.complex .f64 p q)) S Co Cp x z p q a' b' := by
  obtain ⟨h1, ⟨h2, h3, h4, h5, h6⟩, hs, hs10, hf, ho, ho10, hr, hco, hcp⟩ := h
  exact ⟨h1.setCell _ _ h2, ⟨h2, h3, by rw [set_size]; exact h4, h5, by rw [set_size]; exact h6⟩, fun i hi => by rw [set_off _ _ _ _ _ (by omega)]; exact hs i hi, World.cell?_setCell_same V _ _ hs10, fun i hi => by simpa using hf i hi, fun i hi => by rw [set_other _ _ _ _ _ _ (by omega)]; exact ho i hi, by rw [set_other _ _ _ _ _ _ (by omega)]; exact ho10, (Below.heap_setCell V _ _ _ (by show S + 2 ≠ S; omega)).trans hr, fun i hi => by rw [set_other _ _ _ _ _ _ (by omega)]; exact hco i hi, fun i hi => by rw [set_other _ _ _ _ _ _ (by omega)]; exact hcp i hi⟩
/-- the numbers behind j rounds -/
def jnX (x z : Nat → Int) (j : Nat) : Nat → Int := fun i => if i < j then mo (x i) (z i) else x i
theorem jnX_zero (x z : Nat → Int) : jnX x z 0 = x := by funext i; simp [jnX]
theorem jnX_next (x z : Nat → Int) (j : Nat) : upd (jnX x z j) j (mo (x j) (z j)) = jnX x z (j + 1) := by
  funext i
  unfold upd jnX
  by_cases h : i = j
  · subst h; simp
  · rw [if_neg h]
    by_cases h2 : i < j
    · rw [if_pos h2, if_pos (by omega)]
    · rw [if_neg h2, if_neg (by omega)]
end Go.Proofs.YthohoendjipleaaDoor
