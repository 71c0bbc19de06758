/-
  Package stat: Since, walked. Conditions: the numbers are words; the parts of the loads are from 0 to 2.
-/
import Derived.Test.YthohoendjipleaaDoorJ
import Derived.Test.YthohoendjipleaaDoorQt
import Derived.Test.YthohoendjipleaaDoorBk
namespace Go.Proofs.YthohoendjipleaaDoor
open Go.RowKit Go.Sort
set_option linter.unusedSimpArgs false

/-- what Since's loop keeps: the old one (block S), the new one (block S + 1), the result (block S + 2), the pointers (blocks Co, Cp) -/
def SI (w V : World) (S Co Cp : Nat) (x z : Nat → Int) (a' b' : Nat) : Prop :=
  Later w V ∧ (w.heap.size ≤ S ∧ S + 2 < Co ∧ Co < V.heap.size ∧ S + 2 < Cp ∧ Cp < V.heap.size) ∧
  (∀ j, j < 10 → V.cell? ⟨S, j, none⟩ = some (.int .u64 (x j))) ∧ (∀ j, j < 10 → V.cell? ⟨S + 1, j, none⟩ = some (.int .u64 (z j))) ∧ V.cell? ⟨S + 1, 10, none⟩ = some (.complex .f64 a' b') ∧ (∀ j, j < 11 → V.frozen? ⟨S + 1, j, none⟩ = false) ∧
  V.heap[S + 2]? = some (.cells ZST 29 (0, 0)) ∧
  (∀ j, j < 8 → V.cell? ⟨Co, j, none⟩ = some (.pointer (some ⟨S, 2 + j, none⟩))) ∧ (∀ j, j < 8 → V.cell? ⟨Cp, j, none⟩ = some (.pointer (some ⟨S + 1, 2 + j, none⟩)))
theorem SI.later {w V U : World} {S Co Cp : Nat} {x z : Nat → Int} {a' b' : Nat} (h : SI w V S Co Cp x z a' b') (hl : Later V U) : SI w U S Co Cp x z a' b' := by
  obtain ⟨h1, ⟨h2, h3, h4, h5, h6⟩, hs, ho, ho10, hf, hr, hco, hcp⟩ := h
  exact ⟨h1.trans hl, ⟨h2, h3, Nat.lt_of_lt_of_le h4 hl.size, h5, Nat.lt_of_lt_of_le h6 hl.size⟩, fun j hj => cell_at hl (hs j hj) (by show S < _; omega), fun j hj => cell_at hl (ho j hj) (by show S + 1 < _; omega), cell_at hl ho10 (by show S + 1 < _; omega), fun j hj => frz_at hl (hf j hj) (by show S + 1 < _; omega), (Below.block hl _ (by omega)).trans hr, fun j hj => cell_at hl (hco j hj) h4, fun j hj => cell_at hl (hcp j hj) h6⟩
theorem SI.set {w V : World} {S Co Cp : Nat} {x z : Nat → Int} {a' b' : Nat} (h : SI w V S Co Cp x z a' b') (j : Nat) (hj : j < 10) (v : Int) : SI w (V.setCell ⟨S + 1, j, none⟩ (.int .u64 v)) S Co Cp x (upd z j v) a' b' := by
  obtain ⟨h1, ⟨h2, h3, h4, h5, h6⟩, hs, ho, ho10, hf, hr, hco, hcp⟩ := h
  refine ⟨h1.setCell _ _ (by show w.heap.size ≤ S + 1; omega), ⟨h2, h3, by rw [set_size]; exact h4, h5, by rw [set_size]; exact h6⟩, fun i hi => by rw [set_other _ _ _ _ _ _ (by omega)]; exact hs i hi, fun i hi => ?_, by rw [set_off _ _ _ _ _ (by omega)]; exact ho10, fun i hi => by simpa using hf i hi, (Below.heap_setCell V _ _ _ (by show S + 2 ≠ S + 1; omega)).trans hr, fun i hi => by rw [set_other _ _ _ _ _ _ (by omega)]; exact hco i hi, fun i hi => by rw [set_other _ _ _ _ _ _ (by omega)]; exact hcp i hi⟩
  by_cases e : i = j
  · subst e
    rw [upd_same]
    exact World.cell?_setCell_same V _ _ (ho i hi)
  · rw [set_off _ _ _ _ _ e, upd_other _ _ _ _ e]; exact ho i hi
theorem since_start (w : World) (x z : Nat → Int) (a b a' b' : Nat) : ∃ W0, ((w.alloc (.cells #[.int .u64 (x 0), .int .u64 (x 1), .int .u64 (x 2), .int .u64 (x 3), .int .u64 (x 4), .int .u64 (x 5), .int .u64 (x 6), .int .u64 (x 7), .int .u64 (x 8), .int .u64 (x 9), .complex .f64 a b] 29)).alloc (.cells #[.int .u64 (z 0), .int .u64 (z 1), .int .u64 (z 2), .int .u64 (z 3), .int .u64 (z 4), .int .u64 (z 5), .int .u64 (z 6), .int .u64 (z 7), .int .u64 (z 8), .int .u64 (z 9), .complex .f64 a' b'] 29)).alloc (.cells #[.int .u64 0, .int .u64 0, .int .u64 0, .int .u64 0, .int .u64 0, .int .u64 0, .int .u64 0, .int .u64 0, .int .u64 0, .int .u64 0, .complex .f64 0 0] 29) = W0 ∧ Later w W0 ∧ W0.heap.size = w.heap.size + 3 ∧
    StAt W0 w.heap.size x a b ∧ StAt W0 (w.heap.size + 1) z a' b' ∧ W0.heap[w.heap.size + 2]? = some (.cells ZST 29 (0, 0)) ∧ ∀ j, W0.frozen? ⟨w.heap.size + 1, j, none⟩ = false := by
  refine ⟨_, rfl, (((Later.refl w).alloc _).alloc _).alloc _, by simp, ?_, ?_, ?_, fun j => ?_⟩
  · have h1 : StAt (w.alloc (.cells #[.int .u64 (x 0), .int .u64 (x 1), .int .u64 (x 2), .int .u64 (x 3), .int .u64 (x 4), .int .u64 (x 5), .int .u64 (x 6), .int .u64 (x 7), .int .u64 (x 8), .int .u64 (x 9), .complex .f64 a b] 29)) w.heap.size x a b := StAt.of_block (heap_alloc_last w _)
    have h2 : StAt ((w.alloc (.cells #[.int .u64 (x 0), .int .u64 (x 1), .int .u64 (x 2), .int .u64 (x 3), .int .u64 (x 4), .int .u64 (x 5), .int .u64 (x 6), .int .u64 (x 7), .int .u64 (x 8), .int .u64 (x 9), .complex .f64 a b] 29)).alloc (.cells #[.int .u64 (z 0), .int .u64 (z 1), .int .u64 (z 2), .int .u64 (z 3), .int .u64 (z 4), .int .u64 (z 5), .int .u64 (z 6), .int .u64 (z 7), .int .u64 (z 8), .int .u64 (z 9), .complex .f64 a' b'] 29)) w.heap.size x a b := h1.later ((Later.refl (w.alloc (.cells #[.int .u64 (x 0), .int .u64 (x 1), .int .u64 (x 2), .int .u64 (x 3), .int .u64 (x 4), .int .u64 (x 5), .int .u64 (x 6), .int .u64 (x 7), .int .u64 (x 8), .int .u64 (x 9), .complex .f64 a b] 29))).alloc _)
    exact h2.later ((Later.refl ((w.alloc (.cells #[.int .u64 (x 0), .int .u64 (x 1), .int .u64 (x 2), .int .u64 (x 3), .int .u64 (x 4), .int .u64 (x 5), .int .u64 (x 6), .int .u64 (x 7), .int .u64 (x 8), .int .u64 (x 9), .complex .f64 a b] 29)).alloc (.cells #[.int .u64 (z 0), .int .u64 (z 1), .int .u64 (z 2), .int .u64 (z 3), .int .u64 (z 4), .int .u64 (z 5), .int .u64 (z 6), .int .u64 (z 7), .int .u64 (z 8), .int .u64 (z 9), .complex .f64 a' b'] 29))).alloc _)
  · have h1 : StAt ((w.alloc (.cells #[.int .u64 (x 0), .int .u64 (x 1), .int .u64 (x 2), .int .u64 (x 3), .int .u64 (x 4), .int .u64 (x 5), .int .u64 (x 6), .int .u64 (x 7), .int .u64 (x 8), .int .u64 (x 9), .complex .f64 a b] 29)).alloc (.cells #[.int .u64 (z 0), .int .u64 (z 1), .int .u64 (z 2), .int .u64 (z 3), .int .u64 (z 4), .int .u64 (z 5), .int .u64 (z 6), .int .u64 (z 7), .int .u64 (z 8), .int .u64 (z 9), .complex .f64 a' b'] 29)) (w.alloc (.cells #[.int .u64 (x 0), .int .u64 (x 1), .int .u64 (x 2), .int .u64 (x 3), .int .u64 (x 4), .int .u64 (x 5), .int .u64 (x 6), .int .u64 (x 7), .int .u64 (x 8), .int .u64 (x 9), .complex .f64 a b] 29)).heap.size z a' b' := StAt.of_block (heap_alloc_last (w.alloc (.cells #[.int .u64 (x 0), .int .u64 (x 1), .int .u64 (x 2), .int .u64 (x 3), .int .u64 (x 4), .int .u64 (x 5), .int .u64 (x 6), .int .u64 (x 7), .int .u64 (x 8), .int .u64 (x 9), .complex .f64 a b] 29)) _)
    have := h1.later ((Later.refl ((w.alloc (.cells #[.int .u64 (x 0), .int .u64 (x 1), .int .u64 (x 2), .int .u64 (x 3), .int .u64 (x 4), .int .u64 (x 5), .int .u64 (x 6), .int .u64 (x 7), .int .u64 (x 8), .int .u64 (x 9), .complex .f64 a b] 29)).alloc (.cells #[.int .u64 (z 0), .int .u64 (z 1), .int .u64 (z 2), .int .u64 (z 3), .int .u64 (z 4), .int .u64 (z 5), .int .u64 (z 6), .int .u64 (z 7), .int .u64 (z 8), .int .u64 (z 9), .complex .f64 a' b'] 29))).alloc (.cells #[.int .u64 0, .int .u64 0, .int .u64 0, .int .u64 0, .int .u64 0, .int .u64 0, .int .u64 0, .int .u64 0, .int .u64 0, .int .u64 0, .complex .f64 0 0] 29))
    rwa [show (w.alloc (.cells #[.int .u64 (x 0), .int .u64 (x 1), .int .u64 (x 2), .int .u64 (x 3), .int .u64 (x 4), .int .u64 (x 5), .int .u64 (x 6), .int .u64 (x 7), .int .u64 (x 8), .int .u64 (x 9), .complex .f64 a b] 29)).heap.size = w.heap.size + 1 by simp] at this
  · have := heap_alloc_last ((w.alloc (.cells #[.int .u64 (x 0), .int .u64 (x 1), .int .u64 (x 2), .int .u64 (x 3), .int .u64 (x 4), .int .u64 (x 5), .int .u64 (x 6), .int .u64 (x 7), .int .u64 (x 8), .int .u64 (x 9), .complex .f64 a b] 29)).alloc (.cells #[.int .u64 (z 0), .int .u64 (z 1), .int .u64 (z 2), .int .u64 (z 3), .int .u64 (z 4), .int .u64 (z 5), .int .u64 (z 6), .int .u64 (z 7), .int .u64 (z 8), .int .u64 (z 9), .complex .f64 a' b'] 29)) (.cells #[.int .u64 0, .int .u64 0, .int .u64 0, .int .u64 0, .int .u64 0, .int .u64 0, .int .u64 0, .int .u64 0, .int .u64 0, .int .u64 0, .complex .f64 0 0] 29)
    rwa [show ((w.alloc (.cells #[.int .u64 (x 0), .int .u64 (x 1), .int .u64 (x 2), .int .u64 (x 3), .int .u64 (x 4), .int .u64 (x 5), .int .u64 (x 6), .int .u64 (x 7), .int .u64 (x 8), .int .u64 (x 9), .complex .f64 a b] 29)).alloc (.cells #[.int .u64 (z 0), .int .u64 (z 1), .int .u64 (z 2), .int .u64 (z 3), .int .u64 (z 4), .int .u64 (z 5), .int .u64 (z 6), .int .u64 (z 7), .int .u64 (z 8), .int .u64 (z 9), .complex .f64 a' b'] 29)).heap.size = w.heap.size + 2 by simp] at this
  · have h1 := heap_alloc_last (w.alloc (.cells #[.int .u64 (x 0), .int .u64 (x 1), .int .u64 (x 2), .int .u64 (x 3), .int .u64 (x 4), .int .u64 (x 5), .int .u64 (x 6), .int .u64 (x 7), .int .u64 (x 8), .int .u64 (x 9), .complex .f64 a b] 29)) (.cells #[.int .u64 (z 0), .int .u64 (z 1), .int .u64 (z 2), .int .u64 (z 3), .int .u64 (z 4), .int .u64 (z 5), .int .u64 (z 6), .int .u64 (z 7), .int .u64 (z 8), .int .u64 (z 9), .complex .f64 a' b'] 29)
    rw [show (w.alloc (.cells #[.int .u64 (x 0), .int .u64 (x 1), .int .u64 (x 2), .int .u64 (x 3), .int .u64 (x 4), .int .u64 (x 5), .int .u64 (x 6), .int .u64 (x 7), .int .u64 (x 8), .int .u64 (x 9), .complex .f64 a b] 29)).heap.size = w.heap.size + 1 by simp] at h1
    have h2 : (((w.alloc (.cells #[.int .u64 (x 0), .int .u64 (x 1), .int .u64 (x 2), .int .u64 (x 3), .int .u64 (x 4), .int .u64 (x 5), .int .u64 (x 6), .int .u64 (x 7), .int .u64 (x 8), .int .u64 (x 9), .complex .f64 a b] 29)).alloc (.cells #[.int .u64 (z 0), .int .u64 (z 1), .int .u64 (z 2), .int .u64 (z 3), .int .u64 (z 4), .int .u64 (z 5), .int .u64 (z 6), .int .u64 (z 7), .int .u64 (z 8), .int .u64 (z 9), .complex .f64 a' b'] 29)).alloc (.cells #[.int .u64 0, .int .u64 0, .int .u64 0, .int .u64 0, .int .u64 0, .int .u64 0, .int .u64 0, .int .u64 0, .int .u64 0, .int .u64 0, .complex .f64 0 0] 29)).heap[w.heap.size + 1]? = some (.cells #[.int .u64 (z 0), .int .u64 (z 1), .int .u64 (z 2), .int .u64 (z 3), .int .u64 (z 4), .int .u64 (z 5), .int .u64 (z 6), .int .u64 (z 7), .int .u64 (z 8), .int .u64 (z 9), .complex .f64 a' b'] 29 (0, 0)) :=
      (Below.block ((Later.refl ((w.alloc (.cells #[.int .u64 (x 0), .int .u64 (x 1), .int .u64 (x 2), .int .u64 (x 3), .int .u64 (x 4), .int .u64 (x 5), .int .u64 (x 6), .int .u64 (x 7), .int .u64 (x 8), .int .u64 (x 9), .complex .f64 a b] 29)).alloc (.cells #[.int .u64 (z 0), .int .u64 (z 1), .int .u64 (z 2), .int .u64 (z 3), .int .u64 (z 4), .int .u64 (z 5), .int .u64 (z 6), .int .u64 (z 7), .int .u64 (z 8), .int .u64 (z 9), .complex .f64 a' b'] 29))).alloc (.cells #[.int .u64 0, .int .u64 0, .int .u64 0, .int .u64 0, .int .u64 0, .int .u64 0, .int .u64 0, .int .u64 0, .int .u64 0, .int .u64 0, .complex .f64 0 0] 29)) _ (by simp)).trans h1
    generalize (((w.alloc (.cells #[.int .u64 (x 0), .int .u64 (x 1), .int .u64 (x 2), .int .u64 (x 3), .int .u64 (x 4), .int .u64 (x 5), .int .u64 (x 6), .int .u64 (x 7), .int .u64 (x 8), .int .u64 (x 9), .complex .f64 a b] 29)).alloc (.cells #[.int .u64 (z 0), .int .u64 (z 1), .int .u64 (z 2), .int .u64 (z 3), .int .u64 (z 4), .int .u64 (z 5), .int .u64 (z 6), .int .u64 (z 7), .int .u64 (z 8), .int .u64 (z 9), .complex .f64 a' b'] 29)).alloc (.cells #[.int .u64 0, .int .u64 0, .int .u64 0, .int .u64 0, .int .u64 0, .int .u64 0, .int .u64 0, .int .u64 0, .int .u64 0, .int .u64 0, .complex .f64 0 0] 29)) = V at *
    simp [World.frozen?, h2]
set_option maxRecDepth 100000 in
set_option maxHeartbeats 6400000 in
theorem Since_is (x z : Nat → Int) (hx : okX x) (hz : okX z) (a b a' b' : Nat) (ha : a ≤ W2) (hb : b ≤ W2) (ha' : a' ≤ W2) (hb' : b' ≤ W2) (w : World) :
    Calls Tryd.prog 18 #[(.agg #[.int .u64 (x 0), .int .u64 (x 1), .int .u64 (x 2), .int .u64 (x 3), .int .u64 (x 4), .int .u64 (x 5), .int .u64 (x 6), .int .u64 (x 7), .int .u64 (x 8), .int .u64 (x 9), .complex .f64 a b]), (.agg #[.int .u64 (z 0), .int .u64 (z 1), .int .u64 (z 2), .int .u64 (z 3), .int .u64 (z 4), .int .u64 (z 5), .int .u64 (z 6), .int .u64 (z 7), .int .u64 (z 8), .int .u64 (z 9), .complex .f64 a' b'])] w fun e w' => ((leX x z ∧ e = .returned (.tuple #[statV (siX x z 8) a' b', .bool true])) ∨ (¬ leX x z ∧ e = .returned (.tuple #[.agg #[.int .u64 0, .int .u64 0, .int .u64 0, .int .u64 0, .int .u64 0, .int .u64 0, .int .u64 0, .int .u64 0, .int .u64 0, .int .u64 0, .complex .f64 0 0], .bool false]))) ∧ Later w w' := by
  have HX := Lib.hid hx
  have HZ := Lib.hid hz
  clear hx hz
  have HJ := Lib.hid (since_start w x z a b a' b')
  go_enter Tryd.func18, Tryd.ntmps18
  go_wp2_with fail
  refine (statIs_is _ _ _ _ _ _ _ _ _ _ a b ha hb _).mono ?_
  rintro e w1 ⟨rfl, hb1⟩
  obtain ⟨W0, hW0, hl0, hs0, hS0, hO0, hR0, hF0⟩ := HJ.out
  rw [hW0] at hb1
  have hS1 := hS0.later hb1
  have hO1 := hO0.later hb1
  have hR1 := (Below.block hb1 _ (by omega)).trans hR0
  have hF1 := fun j => frz_at hb1 (hF0 j) (by show w.heap.size + 1 < _; omega)
  have hl1 := hl0.trans hb1
  have hs1 : w.heap.size + 3 ≤ w1.heap.size := by have := hb1.size; omega
  clear HJ hb1 hW0 hl0 hs0 hS0 hO0 hR0 hF0
  obtain ⟨S, hS⟩ : ∃ S, w.heap.size = S := ⟨_, rfl⟩
  rw [hS] at hS1 hO1 hR1 hF1 hs1 ⊢
  have hS' : w.heap.size ≤ S := by omega
  clear hS
  have k0 : w1.cell? ⟨S + 1, 0, none⟩ = some (.int .u64 (z 0)) := hO1.2.1 0 (by omega)
  have k1 : w1.cell? ⟨S + 1, 1, none⟩ = some (.int .u64 (z 1)) := hO1.2.1 1 (by omega)
  have k2 : w1.cell? ⟨S + 1, 2, none⟩ = some (.int .u64 (z 2)) := hO1.2.1 2 (by omega)
  have k3 : w1.cell? ⟨S + 1, 3, none⟩ = some (.int .u64 (z 3)) := hO1.2.1 3 (by omega)
  have k4 : w1.cell? ⟨S + 1, 4, none⟩ = some (.int .u64 (z 4)) := hO1.2.1 4 (by omega)
  have k5 : w1.cell? ⟨S + 1, 5, none⟩ = some (.int .u64 (z 5)) := hO1.2.1 5 (by omega)
  have k6 : w1.cell? ⟨S + 1, 6, none⟩ = some (.int .u64 (z 6)) := hO1.2.1 6 (by omega)
  have k7 : w1.cell? ⟨S + 1, 7, none⟩ = some (.int .u64 (z 7)) := hO1.2.1 7 (by omega)
  have k8 : w1.cell? ⟨S + 1, 8, none⟩ = some (.int .u64 (z 8)) := hO1.2.1 8 (by omega)
  have k9 : w1.cell? ⟨S + 1, 9, none⟩ = some (.int .u64 (z 9)) := hO1.2.1 9 (by omega)
  have k10 : w1.cell? ⟨S + 1, 10, none⟩ = some (.complex .f64 a' b') := hO1.2.2
  go_wp2_with fail
  refine (statIs_is _ _ _ _ _ _ _ _ _ _ a' b' ha' hb' _).mono ?_
  rintro e w2 ⟨rfl, hb2⟩
  clear k0 k1 k2 k3 k4 k5 k6 k7 k8 k9 k10
  go_wp2_with fail
  refine (counters_is S _).mono ?_
  rintro e w3 ⟨Co, hCo1, hCo2, rfl, hb3, hco⟩
  go_wp2_with fail
  refine (counters_is (S + 1) _).mono ?_
  rintro e w4 ⟨Cp, hCp1, hCp2, rfl, hb4, hcp⟩
  have h14 := hb2.trans (hb3.trans hb4)
  have hI0 : SI w w4 S Co Cp x (siX x z 0) a' b' := by
    rw [siX_zero]
    have s2 := hb2.size
    have s3 := hb3.size
    exact ⟨hl1.trans h14, ⟨hS', by omega, Nat.lt_of_lt_of_le hCo2 hb4.size, by omega, hCp2⟩, (hS1.later h14).2.1, (hO1.later h14).2.1, (hO1.later h14).2.2, fun j _ => frz_at h14 (hF1 j) (by show S + 1 < _; omega), (Below.block h14 _ (by omega)).trans hR1, fun j hj => cell_at hb4 (hco j hj) hCo2, hcp⟩
  clear hS1 hO1 hR1 hF1 hl1 hs1 hb2 hb3 hb4 hco hcp hCo1 hCo2 hCp1 hCp2 h14
  go_wp2_with fail
  go_loopw [7, 8, 21] (fun _ _ s21 wr => ∃ j : Nat, j ≤ 8 ∧ s21 = .int .i64 j ∧ SI w wr S Co Cp x (siX x z j) a' b' ∧ ∀ i, 2 ≤ i → i < 2 + j → x i ≤ z i) (fun _ _ s21 _ => 8 - (RowKit.intOf s21).toNat)
  case atStart => exact ⟨0, by omega, rfl, hI0, fun i h1 h2 => by omega⟩
  case round =>
    obtain ⟨j, hj, rfl, hI, hle⟩ := hrel
    rename World => wk
    clear hI0
    have HLE := Lib.hid hle
    clear hle
    by_cases hlt : j < 8
    · have hd' : decide ((j : Int) < 8) = true := by simp; omega
      have hd2 : decide (j < 8) = true := by simpa using hlt
      have hj0 : (0 : Int) ≤ (j : Int) := by omega
      have hj9 : (j : Int) < 8 := by omega
      have c1 : wk.cell? ⟨Cp, j, none⟩ = some (.pointer (some ⟨S + 1, 2 + j, none⟩)) := hI.2.2.2.2.2.2.2.2 j hlt
      have e3 : siX x z j (2 + j) = z (2 + j) := by unfold siX; rw [if_neg (by omega)]
      obtain ⟨xj, hxj⟩ : ∃ v, x (2 + j) = v := ⟨_, rfl⟩
      obtain ⟨zj, hzj⟩ : ∃ v, z (2 + j) = v := ⟨_, rfl⟩
      have hx2 := HX.out (2 + j)
      have hz2 := HZ.out (2 + j)
      rw [hxj] at hx2
      rw [hzj] at hz2
      have c2 := cell_regrown (hI.2.2.2.2.2.2.2.1 j hlt)
      have c3 := cell_regrown (show wk.cell? ⟨S + 1, 2 + j, none⟩ = some (.int .u64 zj) by rw [← hzj, ← e3]; exact hI.2.2.2.1 (2 + j) (by omega))
      have c4 := cell_regrown (show wk.cell? ⟨S, 2 + j, none⟩ = some (.int .u64 xj) by rw [← hxj]; exact hI.2.2.1 (2 + j) (by omega))
      have HI := Lib.hid hI
      have HE3 := Lib.hid (And.intro e3 (And.intro hxj hzj))
      clear hI e3 hxj hzj
      by_cases hless : zj < xj
      · have hd3 : decide (zj < xj) = true := by simpa using hless
        go_wp2_with fail
        refine wp_region_quiet_below mixed (by kernel_rfl) ?_
        repeat (quiet_step (fail))
        with_reducible refine wpQuiet_nil ?_
        intro w3 hw3
        have hl3 : Later wk w3 := by obtain ⟨p, rfl⟩ := hw3; exact below_regrown wk p.d p.os
        have hI3 := HI.out.later hl3
        have hR : w3.heap[S + 1 + 1]? = some (.cells #[.int .u64 0, .int .u64 0, .int .u64 0, .int .u64 0, .int .u64 0, .int .u64 0, .int .u64 0, .int .u64 0, .int .u64 0, .int .u64 0, .complex .f64 0 0] 29 (0, 0)) := hI3.2.2.2.2.2.2.1
        have hU1 := hI3.1
        clear hw3 hl3 c1 c2 c3 c4 HI hI3
        go_wp2_with (first | (refine wpList_store_rowTo rfl 29 (.tmp 4) (.tmp 36) rfl rfl (S + 1 + 1) #[.int .u64 0, .int .u64 0, .int .u64 0, .int .u64 0, .int .u64 0, .int .u64 0, .int .u64 0, .int .u64 0, .int .u64 0, .int .u64 0, .complex .f64 0 0] rfl rfl 29 #[.int .u64 0, .int .u64 0, .int .u64 0, .int .u64 0, .int .u64 0, .int .u64 0, .int .u64 0, .int .u64 0, .int .u64 0, .int .u64 0, .complex .f64 0 0] hR (by kernel_rfl) rfl (by kernel_rfl) ?_))
        have hl3 : Later w (w3.setRow (S + 1 + 1) #[.int .u64 0, .int .u64 0, .int .u64 0, .int .u64 0, .int .u64 0, .int .u64 0, .int .u64 0, .int .u64 0, .int .u64 0, .int .u64 0, .complex .f64 0 0]) := below_setRow hU1 (by omega) _
        have u := fun j => cell_setRow_same w3 (S + 1 + 1) j _ #[.int .u64 0, .int .u64 0, .int .u64 0, .int .u64 0, .int .u64 0, .int .u64 0, .int .u64 0, .int .u64 0, .int .u64 0, .int .u64 0, .complex .f64 0 0] 29 (0, 0) hR
        have u0 := u 0
        have u1 := u 1
        have u2 := u 2
        have u3 := u 3
        have u4 := u 4
        have u5 := u 5
        have u6 := u 6
        have u7 := u 7
        have u8 := u 8
        have u9 := u 9
        have u10 := u 10
        clear u
        generalize w3.setRow (S + 1 + 1) #[.int .u64 0, .int .u64 0, .int .u64 0, .int .u64 0, .int .u64 0, .int .u64 0, .int .u64 0, .int .u64 0, .int .u64 0, .int .u64 0, .complex .f64 0 0] = U at *
        exact bodyPost_ret (v := .tuple #[.agg #[.int .u64 0, .int .u64 0, .int .u64 0, .int .u64 0, .int .u64 0, .int .u64 0, .int .u64 0, .int .u64 0, .int .u64 0, .int .u64 0, .complex .f64 0 0], .bool false]) (by simp [results, Tryd.results18, go_sem, u0, u1, u2, u3, u4, u5, u6, u7, u8, u9, u10]) rfl ⟨.inr ⟨fun h => by have := h (2 + j) (by omega) (by omega); rw [HE3.out.2.1, HE3.out.2.2] at this; omega, rfl⟩, hl3⟩
      · have hd3 : decide (zj < xj) = false := by simpa using hless
        go_wp2_with fail
        refine wp_region_quiet_below mixed (by kernel_rfl) ?_
        repeat (quiet_step (fail))
        with_reducible refine wpQuiet_nil ?_
        intro w3 hw3
        have hl3 : Later wk w3 := by obtain ⟨p, rfl⟩ := hw3; exact below_regrown wk p.d p.os
        have hI3 := HI.out.later hl3
        clear hw3 hl3 c1 c2 c3 c4 HI
        have c2 := cell_regrown (hI3.2.2.2.2.2.2.2.1 j hlt)
        have c3 := cell_regrown (show w3.cell? ⟨S + 1, 2 + j, none⟩ = some (.int .u64 zj) by rw [← HE3.out.2.2, ← HE3.out.1]; exact hI3.2.2.2.1 (2 + j) (by omega))
        have c4 := cell_regrown (show w3.cell? ⟨S, 2 + j, none⟩ = some (.int .u64 xj) by rw [← HE3.out.2.1]; exact hI3.2.2.1 (2 + j) (by omega))
        have HI3 := Lib.hid hI3
        clear hI3
        have hw1 : IntKind.u64.wrap (zj - xj) = zj - xj := by rw [IntKind.wrap_u64]; omega
        go_wp2_with fail
        refine wp_region_below_tail 11 mixed (by kernel_rfl) ?_
        simp only [List.take_succ_cons, List.take_zero, List.drop_succ_cons, List.drop_zero]
        repeat (quiet_step (fail))
        with_reducible refine wpQuiet_nil ?_
        intro w5 hw5
        have hl5 : Later w3 w5 := by obtain ⟨p, rfl⟩ := hw5; exact below_regrown w3 p.d p.os
        have hI5 := HI3.out.later hl5
        clear hw5 hl5 c2 c3 c4 HI3
        have k1 : w5.cell? ⟨S + 1, 2 + j, none⟩ = some (.int .u64 zj) := by rw [← HE3.out.2.2, ← HE3.out.1]; exact hI5.2.2.2.1 (2 + j) (by omega)
        have k2 := hI5.2.2.2.2.2.1 (2 + j) (by omega)
        have hI6 := hI5.set (2 + j) (by omega) (z (2 + j) - x (2 + j))
        rw [siX_next, HE3.out.2.1, HE3.out.2.2] at hI6
        have HI6 := Lib.hid hI6
        clear hI5 hI6
        go_wp2_with fail
        go_roundw
        case rel => exact ⟨j + 1, by omega, by go_num, HI6.out, fun i h1 h2 => by
          by_cases hi : i = 2 + j
          · subst hi; rw [HE3.out.2.1, HE3.out.2.2]; omega
          · exact HLE.out i h1 (by omega)⟩
        case measure => simp [RowKit.intOf]; omega
    · obtain rfl : j = 8 := by omega
      obtain ⟨y, hy⟩ : ∃ y, siX x z 8 = y := ⟨_, rfl⟩
      rw [hy] at hI
      have k0 := hI.2.2.2.1 0 (by omega)
      have k1 := hI.2.2.2.1 1 (by omega)
      have k2 := hI.2.2.2.1 2 (by omega)
      have k3 := hI.2.2.2.1 3 (by omega)
      have k4 := hI.2.2.2.1 4 (by omega)
      have k5 := hI.2.2.2.1 5 (by omega)
      have k6 := hI.2.2.2.1 6 (by omega)
      have k7 := hI.2.2.2.1 7 (by omega)
      have k8 := hI.2.2.2.1 8 (by omega)
      have k9 := hI.2.2.2.1 9 (by omega)
      have k10 := hI.2.2.2.2.1
      have hR : wk.heap[S + 1 + 1]? = some (.cells #[.int .u64 0, .int .u64 0, .int .u64 0, .int .u64 0, .int .u64 0, .int .u64 0, .int .u64 0, .int .u64 0, .int .u64 0, .int .u64 0, .complex .f64 0 0] 29 (0, 0)) := hI.2.2.2.2.2.2.1
      have hU1 := hI.1
      have HY := Lib.hid hy
      have HI := Lib.hid hI
      clear hI hy
      go_wp2_with (first | (refine wpList_store_rowTo rfl 29 (.tmp 4) (.tmp 49) rfl rfl (S + 1 + 1) #[.int .u64 (y 0), .int .u64 (y 1), .int .u64 (y 2), .int .u64 (y 3), .int .u64 (y 4), .int .u64 (y 5), .int .u64 (y 6), .int .u64 (y 7), .int .u64 (y 8), .int .u64 (y 9), .complex .f64 a' b'] rfl rfl 29 #[.int .u64 0, .int .u64 0, .int .u64 0, .int .u64 0, .int .u64 0, .int .u64 0, .int .u64 0, .int .u64 0, .int .u64 0, .int .u64 0, .complex .f64 0 0] hR (by kernel_rfl) rfl (by kernel_rfl) ?_))
      have hl3 : Later w (wk.setRow (S + 1 + 1) #[.int .u64 (y 0), .int .u64 (y 1), .int .u64 (y 2), .int .u64 (y 3), .int .u64 (y 4), .int .u64 (y 5), .int .u64 (y 6), .int .u64 (y 7), .int .u64 (y 8), .int .u64 (y 9), .complex .f64 a' b']) := below_setRow hU1 (by omega) _
      have u := fun j => cell_setRow_same wk (S + 1 + 1) j _ #[.int .u64 (y 0), .int .u64 (y 1), .int .u64 (y 2), .int .u64 (y 3), .int .u64 (y 4), .int .u64 (y 5), .int .u64 (y 6), .int .u64 (y 7), .int .u64 (y 8), .int .u64 (y 9), .complex .f64 a' b'] 29 (0, 0) hR
      have u0 := u 0
      have u1 := u 1
      have u2 := u 2
      have u3 := u 3
      have u4 := u 4
      have u5 := u 5
      have u6 := u 6
      have u7 := u 7
      have u8 := u 8
      have u9 := u 9
      have u10 := u 10
      clear u
      generalize wk.setRow (S + 1 + 1) #[.int .u64 (y 0), .int .u64 (y 1), .int .u64 (y 2), .int .u64 (y 3), .int .u64 (y 4), .int .u64 (y 5), .int .u64 (y 6), .int .u64 (y 7), .int .u64 (y 8), .int .u64 (y 9), .complex .f64 a' b'] = U at *
      exact bodyPost_ret (v := .tuple #[.agg #[.int .u64 (y 0), .int .u64 (y 1), .int .u64 (y 2), .int .u64 (y 3), .int .u64 (y 4), .int .u64 (y 5), .int .u64 (y 6), .int .u64 (y 7), .int .u64 (y 8), .int .u64 (y 9), .complex .f64 a' b'], .bool true]) (by simp [results, Tryd.results18, go_sem, u0, u1, u2, u3, u4, u5, u6, u7, u8, u9, u10]) rfl ⟨.inl ⟨fun i h1 h2 => HLE.out i h1 (by omega), by rw [HY.out]; rfl⟩, hl3⟩
end Go.Proofs.YthohoendjipleaaDoor
