/-
  The law StatSum, walked. Conditions: the deeds read as said; the library's tables read as the program's text lays them.
-/
import Derived.Test.YthohoendjipleaaDoorJw
import Derived.Test.YthohoendjipleaaDoorAw
import Derived.Deep.MidRow
import Derived.Deep.WholeRow
import Derived.Deep.CutRange
import Derived.Great.BuildSlice
namespace Go.Proofs.YthohoendjipleaaDoor
open Go.RowKit Go.Sort
set_option linter.unusedSimpArgs false
set_option linter.unusedVariables false

/-- the walk of a region's orders under a name -/
theorem capR {P : Program} {md : Region.Mode} {ops : Array Oper} {Q : Exit → Act → World → Prop} {S : World → Prop} {fuel : Nat} {listed : Array Bool} {a : Act} {w : World}
    (h : ∀ R : Nat → Array Bool → Act → World → Prop, R = wpAnyH P md ops Q S → R fuel listed a w) : wpAnyH P md ops Q S fuel listed a w := h _ rfl
theorem box3 (w : World) (n m o : Nat → Int) : ∃ W0, ((w.alloc (.cells #[.int .u32 (n 0), .int .u32 (n 1), .int .u32 (n 2), .int .u32 (n 3), .int .u32 (n 4), .int .u32 (n 5), .int .u32 (n 6), .int .u32 (n 7), .int .u32 (n 8), .int .u32 (n 9)] 23)).alloc (.cells #[.int .u32 (m 0), .int .u32 (m 1), .int .u32 (m 2), .int .u32 (m 3), .int .u32 (m 4), .int .u32 (m 5), .int .u32 (m 6), .int .u32 (m 7), .int .u32 (m 8), .int .u32 (m 9)] 23)).alloc (.cells #[.int .u32 (o 0), .int .u32 (o 1), .int .u32 (o 2), .int .u32 (o 3), .int .u32 (o 4), .int .u32 (o 5), .int .u32 (o 6), .int .u32 (o 7), .int .u32 (o 8), .int .u32 (o 9)] 23) = W0 ∧ Later w W0 ∧ W0.heap.size = w.heap.size + 3 ∧
    W0.heap[w.heap.size]? = some (.cells #[.int .u32 (n 0), .int .u32 (n 1), .int .u32 (n 2), .int .u32 (n 3), .int .u32 (n 4), .int .u32 (n 5), .int .u32 (n 6), .int .u32 (n 7), .int .u32 (n 8), .int .u32 (n 9)] 23 (0, 0)) ∧ W0.heap[w.heap.size + 1]? = some (.cells #[.int .u32 (m 0), .int .u32 (m 1), .int .u32 (m 2), .int .u32 (m 3), .int .u32 (m 4), .int .u32 (m 5), .int .u32 (m 6), .int .u32 (m 7), .int .u32 (m 8), .int .u32 (m 9)] 23 (0, 0)) ∧ W0.heap[w.heap.size + 2]? = some (.cells #[.int .u32 (o 0), .int .u32 (o 1), .int .u32 (o 2), .int .u32 (o 3), .int .u32 (o 4), .int .u32 (o 5), .int .u32 (o 6), .int .u32 (o 7), .int .u32 (o 8), .int .u32 (o 9)] 23 (0, 0)) := by
  refine ⟨_, rfl, (((Later.refl w).alloc _).alloc _).alloc _, by simp, ?_, ?_, ?_⟩
  · have h1 := heap_alloc_last w (.cells #[.int .u32 (n 0), .int .u32 (n 1), .int .u32 (n 2), .int .u32 (n 3), .int .u32 (n 4), .int .u32 (n 5), .int .u32 (n 6), .int .u32 (n 7), .int .u32 (n 8), .int .u32 (n 9)] 23)
    exact (Below.block (((Later.refl (w.alloc (.cells #[.int .u32 (n 0), .int .u32 (n 1), .int .u32 (n 2), .int .u32 (n 3), .int .u32 (n 4), .int .u32 (n 5), .int .u32 (n 6), .int .u32 (n 7), .int .u32 (n 8), .int .u32 (n 9)] 23))).alloc (.cells #[.int .u32 (m 0), .int .u32 (m 1), .int .u32 (m 2), .int .u32 (m 3), .int .u32 (m 4), .int .u32 (m 5), .int .u32 (m 6), .int .u32 (m 7), .int .u32 (m 8), .int .u32 (m 9)] 23)).alloc (.cells #[.int .u32 (o 0), .int .u32 (o 1), .int .u32 (o 2), .int .u32 (o 3), .int .u32 (o 4), .int .u32 (o 5), .int .u32 (o 6), .int .u32 (o 7), .int .u32 (o 8), .int .u32 (o 9)] 23)) _ (by simp)).trans h1
  · have h1 := heap_alloc_last (w.alloc (.cells #[.int .u32 (n 0), .int .u32 (n 1), .int .u32 (n 2), .int .u32 (n 3), .int .u32 (n 4), .int .u32 (n 5), .int .u32 (n 6), .int .u32 (n 7), .int .u32 (n 8), .int .u32 (n 9)] 23)) (.cells #[.int .u32 (m 0), .int .u32 (m 1), .int .u32 (m 2), .int .u32 (m 3), .int .u32 (m 4), .int .u32 (m 5), .int .u32 (m 6), .int .u32 (m 7), .int .u32 (m 8), .int .u32 (m 9)] 23)
    rw [show (w.alloc (.cells #[.int .u32 (n 0), .int .u32 (n 1), .int .u32 (n 2), .int .u32 (n 3), .int .u32 (n 4), .int .u32 (n 5), .int .u32 (n 6), .int .u32 (n 7), .int .u32 (n 8), .int .u32 (n 9)] 23)).heap.size = w.heap.size + 1 by simp] at h1
    exact (Below.block ((Later.refl ((w.alloc (.cells #[.int .u32 (n 0), .int .u32 (n 1), .int .u32 (n 2), .int .u32 (n 3), .int .u32 (n 4), .int .u32 (n 5), .int .u32 (n 6), .int .u32 (n 7), .int .u32 (n 8), .int .u32 (n 9)] 23)).alloc (.cells #[.int .u32 (m 0), .int .u32 (m 1), .int .u32 (m 2), .int .u32 (m 3), .int .u32 (m 4), .int .u32 (m 5), .int .u32 (m 6), .int .u32 (m 7), .int .u32 (m 8), .int .u32 (m 9)] 23))).alloc (.cells #[.int .u32 (o 0), .int .u32 (o 1), .int .u32 (o 2), .int .u32 (o 3), .int .u32 (o 4), .int .u32 (o 5), .int .u32 (o 6), .int .u32 (o 7), .int .u32 (o 8), .int .u32 (o 9)] 23)) _ (by simp)).trans h1
  · have h1 := heap_alloc_last ((w.alloc (.cells #[.int .u32 (n 0), .int .u32 (n 1), .int .u32 (n 2), .int .u32 (n 3), .int .u32 (n 4), .int .u32 (n 5), .int .u32 (n 6), .int .u32 (n 7), .int .u32 (n 8), .int .u32 (n 9)] 23)).alloc (.cells #[.int .u32 (m 0), .int .u32 (m 1), .int .u32 (m 2), .int .u32 (m 3), .int .u32 (m 4), .int .u32 (m 5), .int .u32 (m 6), .int .u32 (m 7), .int .u32 (m 8), .int .u32 (m 9)] 23)) (.cells #[.int .u32 (o 0), .int .u32 (o 1), .int .u32 (o 2), .int .u32 (o 3), .int .u32 (o 4), .int .u32 (o 5), .int .u32 (o 6), .int .u32 (o 7), .int .u32 (o 8), .int .u32 (o 9)] 23)
    rwa [show ((w.alloc (.cells #[.int .u32 (n 0), .int .u32 (n 1), .int .u32 (n 2), .int .u32 (n 3), .int .u32 (n 4), .int .u32 (n 5), .int .u32 (n 6), .int .u32 (n 7), .int .u32 (n 8), .int .u32 (n 9)] 23)).alloc (.cells #[.int .u32 (m 0), .int .u32 (m 1), .int .u32 (m 2), .int .u32 (m 3), .int .u32 (m 4), .int .u32 (m 5), .int .u32 (m 6), .int .u32 (m 7), .int .u32 (m 8), .int .u32 (m 9)] 23)).heap.size = w.heap.size + 2 by simp] at h1
theorem reL {P : Program} {md : Region.Mode} {ops : Array Oper} {Q : Exit → Act → World → Prop} {S : World → Prop} {fuel : Nat} {l l' : Array Bool} {a : Act} {w : World} (e : l = l') (h : wpAnyH P md ops Q S fuel l' a w) : wpAnyH P md ops Q S fuel l a w := by
  rw [e]; exact h
theorem lt_of_heap {u : World} {g : Nat} {o : Obj} (h : u.heap[g]? = some o) : g < u.heap.size := (Array.getElem?_eq_some_iff.1 h).1
theorem StAt.far {w : World} {g : Nat} {x : Nat → Int} {a b : Nat} (h : StAt w g x a b) (g' j : Nat) (v : Value) (hne : g ≠ g') : StAt (w.setCell ⟨g', j, none⟩ v) g x a b :=
  ⟨by rw [set_size]; exact h.1, fun i hi => by rw [set_other _ _ _ _ _ _ hne]; exact h.2.1 i hi, by rw [set_other _ _ _ _ _ _ hne]; exact h.2.2⟩
theorem StAt.set {w : World} {g : Nat} {x : Nat → Int} {a b : Nat} (h : StAt w g x a b) (j : Nat) (hj : j < 10) (v : Int) : StAt (w.setCell ⟨g, j, none⟩ (.int .u64 v)) g (upd x j v) a b := by
  refine ⟨by rw [set_size]; exact h.1, fun i hi => ?_, by rw [set_off _ _ _ _ _ (by omega)]; exact h.2.2⟩
  by_cases e : i = j
  · subst e
    rw [upd_same]
    exact World.cell?_setCell_same w _ _ (h.2.1 i hi)
  · rw [set_off _ _ _ _ _ e, upd_other _ _ _ _ e]; exact h.2.1 i hi
/-- three Stats in three blocks -/
def Three (W V : World) (g1 g2 g3 : Nat) (n m o : Nat → Int) (A1 B1 A2 B2 A3 B3 : Nat) : Prop :=
  Later W V ∧ (W.heap.size ≤ g1 ∧ W.heap.size ≤ g2 ∧ W.heap.size ≤ g3 ∧ g1 ≠ g2 ∧ g1 ≠ g3 ∧ g2 ≠ g3) ∧ V.heap[g1]? = some (.cells #[.int .u64 (n 0), .int .u64 (n 1), .int .u64 (n 2), .int .u64 (n 3), .int .u64 (n 4), .int .u64 (n 5), .int .u64 (n 6), .int .u64 (n 7), .int .u64 (n 8), .int .u64 (n 9), .complex .f64 A1 B1] 29 (0, 0)) ∧ V.heap[g2]? = some (.cells #[.int .u64 (m 0), .int .u64 (m 1), .int .u64 (m 2), .int .u64 (m 3), .int .u64 (m 4), .int .u64 (m 5), .int .u64 (m 6), .int .u64 (m 7), .int .u64 (m 8), .int .u64 (m 9), .complex .f64 A2 B2] 29 (0, 0)) ∧ V.heap[g3]? = some (.cells #[.int .u64 (o 0), .int .u64 (o 1), .int .u64 (o 2), .int .u64 (o 3), .int .u64 (o 4), .int .u64 (o 5), .int .u64 (o 6), .int .u64 (o 7), .int .u64 (o 8), .int .u64 (o 9), .complex .f64 A3 B3] 29 (0, 0))

set_option maxRecDepth 100000 in
set_option maxHeartbeats 16000000 in
theorem StatSum_is (n m o : Nat → Int) (hn : okN n) (hm : okN m) (ho : okN o) (v1 v2 v3 : Value) (l1 l2 l3 : List Int) (fl : Int) (hfl : 0 ≤ fl ∧ fl ≤ 255) (w : World) (hd1 : Deeds w v1 l1) (hd2 : Deeds w v2 l2) (hd3 : Deeds w v3 l3) (hE : Env w) :
    Calls Tryd.prog 5 #[.agg #[.int .u32 (n 0), .int .u32 (n 1), .int .u32 (n 2), .int .u32 (n 3), .int .u32 (n 4), .int .u32 (n 5), .int .u32 (n 6), .int .u32 (n 7), .int .u32 (n 8), .int .u32 (n 9)], .agg #[.int .u32 (m 0), .int .u32 (m 1), .int .u32 (m 2), .int .u32 (m 3), .int .u32 (m 4), .int .u32 (m 5), .int .u32 (m 6), .int .u32 (m 7), .int .u32 (m 8), .int .u32 (m 9)], .agg #[.int .u32 (o 0), .int .u32 (o 1), .int .u32 (o 2), .int .u32 (o 3), .int .u32 (o 4), .int .u32 (o 5), .int .u32 (o 6), .int .u32 (o 7), .int .u32 (o 8), .int .u32 (o 9)], v1, v2, v3, .int .u8 fl] w fun e w' => e = .returned (.bool true) ∧ Later w w' := by
  have HN := Lib.hid (And.intro hn (And.intro hm ho))
  have HE := Lib.hid hE
  have HD := Lib.hid (And.intro hd1 (And.intro hd2 hd3))
  have hA1 := ldR_le (l1.take 100)
  have hB1 := ldI_le (l1.take 100)
  obtain ⟨A1, hA'1⟩ : ∃ A, ldR (l1.take 100) = A := ⟨_, rfl⟩
  obtain ⟨B1, hB'1⟩ : ∃ B, ldI (l1.take 100) = B := ⟨_, rfl⟩
  have HAB1 := Lib.hid (And.intro hA'1 hB'1)
  rw [hA'1] at hA1
  rw [hB'1] at hB1
  have hA2 := ldR_le (l2.take 100)
  have hB2 := ldI_le (l2.take 100)
  obtain ⟨A2, hA'2⟩ : ∃ A, ldR (l2.take 100) = A := ⟨_, rfl⟩
  obtain ⟨B2, hB'2⟩ : ∃ B, ldI (l2.take 100) = B := ⟨_, rfl⟩
  have HAB2 := Lib.hid (And.intro hA'2 hB'2)
  rw [hA'2] at hA2
  rw [hB'2] at hB2
  have hA3 := ldR_le (l3.take 100)
  have hB3 := ldI_le (l3.take 100)
  obtain ⟨A3, hA'3⟩ : ∃ A, ldR (l3.take 100) = A := ⟨_, rfl⟩
  obtain ⟨B3, hB'3⟩ : ∃ B, ldI (l3.take 100) = B := ⟨_, rfl⟩
  have HAB3 := Lib.hid (And.intro hA'3 hB'3)
  rw [hA'3] at hA3
  rw [hB'3] at hB3
  have hst := run_store_complex Tryd.prog
  have HBX := Lib.hid (box3 w n m o)
  clear hn hm ho hE hd1 hd2 hd3 hA'1 hA'2 hA'3 hB'1 hB'2 hB'3
  go_enter Tryd.func5, Tryd.ntmps5
  go_wp2_with fail
  obtain ⟨W, hW, hlW, hsW, hb1, hb2, hb3⟩ := HBX.out
  clear HBX
  rw [hW]
  obtain ⟨T, hT⟩ : ∃ T, w.heap.size = T := ⟨_, rfl⟩
  rw [hT] at hsW hb1 hb2 hb3 ⊢
  have HLW := Lib.hid hlW
  clear hW hT hlW
  have HB := Lib.hid (And.intro hsW (And.intro hb1 (And.intro hb2 hb3)))
  clear hsW hb1 hb2 hb3
  have HV1 := Lib.hid (show ∀ w', Later W w' → Calls Tryd.prog 8 #[.agg #[.int .u32 (n 0), .int .u32 (n 1), .int .u32 (n 2), .int .u32 (n 3), .int .u32 (n 4), .int .u32 (n 5), .int .u32 (n 6), .int .u32 (n 7), .int .u32 (n 8), .int .u32 (n 9)], v1] w' fun e w'' => e = .returned (.agg #[.int .u64 (n 0), .int .u64 (n 1), .int .u64 (n 2), .int .u64 (n 3), .int .u64 (n 4), .int .u64 (n 5), .int .u64 (n 6), .int .u64 (n 7), .int .u64 (n 8), .int .u64 (n 9), .complex .f64 A1 B1]) ∧ Later w' w'' from
    fun w' hl => by have := Valid_is n HN.out.1 v1 l1 w' (HD.out.1.later (HLW.out.trans hl)); rwa [HAB1.out.1, HAB1.out.2] at this)
  have HV2 := Lib.hid (show ∀ w', Later W w' → Calls Tryd.prog 8 #[.agg #[.int .u32 (m 0), .int .u32 (m 1), .int .u32 (m 2), .int .u32 (m 3), .int .u32 (m 4), .int .u32 (m 5), .int .u32 (m 6), .int .u32 (m 7), .int .u32 (m 8), .int .u32 (m 9)], v2] w' fun e w'' => e = .returned (.agg #[.int .u64 (m 0), .int .u64 (m 1), .int .u64 (m 2), .int .u64 (m 3), .int .u64 (m 4), .int .u64 (m 5), .int .u64 (m 6), .int .u64 (m 7), .int .u64 (m 8), .int .u64 (m 9), .complex .f64 A2 B2]) ∧ Later w' w'' from
    fun w' hl => by have := Valid_is m HN.out.2.1 v2 l2 w' (HD.out.2.1.later (HLW.out.trans hl)); rwa [HAB2.out.1, HAB2.out.2] at this)
  have HV3 := Lib.hid (show ∀ w', Later W w' → Calls Tryd.prog 8 #[.agg #[.int .u32 (o 0), .int .u32 (o 1), .int .u32 (o 2), .int .u32 (o 3), .int .u32 (o 4), .int .u32 (o 5), .int .u32 (o 6), .int .u32 (o 7), .int .u32 (o 8), .int .u32 (o 9)], v3] w' fun e w'' => e = .returned (.agg #[.int .u64 (o 0), .int .u64 (o 1), .int .u64 (o 2), .int .u64 (o 3), .int .u64 (o 4), .int .u64 (o 5), .int .u64 (o 6), .int .u64 (o 7), .int .u64 (o 8), .int .u64 (o 9), .complex .f64 A3 B3]) ∧ Later w' w'' from
    fun w' hl => by have := Valid_is o HN.out.2.2 v3 l3 w' (HD.out.2.2.later (HLW.out.trans hl)); rwa [HAB3.out.1, HAB3.out.2] at this)
  go_cut [15, 16, 17] from 15 to 38 (fun s15 s16 s17 V => ∃ g1 g2 g3, s15 = .pointer (some ⟨g1, 0, none⟩) ∧ s16 = .pointer (some ⟨g2, 0, none⟩) ∧ s17 = .pointer (some ⟨g3, 0, none⟩) ∧ Three W V g1 g2 g3 n m o A1 B1 A2 B2 A3 B3)
  case first =>
    have hTb := HB.out.1
    have k0_0 : W.cell? ⟨T, 0, none⟩ = some (.int .u32 (n 0)) := by rw [Lib.cell_of_heap HB.out.2.1]; rfl
    have k0_1 : W.cell? ⟨T, 1, none⟩ = some (.int .u32 (n 1)) := by rw [Lib.cell_of_heap HB.out.2.1]; rfl
    have k0_2 : W.cell? ⟨T, 2, none⟩ = some (.int .u32 (n 2)) := by rw [Lib.cell_of_heap HB.out.2.1]; rfl
    have k0_3 : W.cell? ⟨T, 3, none⟩ = some (.int .u32 (n 3)) := by rw [Lib.cell_of_heap HB.out.2.1]; rfl
    have k0_4 : W.cell? ⟨T, 4, none⟩ = some (.int .u32 (n 4)) := by rw [Lib.cell_of_heap HB.out.2.1]; rfl
    have k0_5 : W.cell? ⟨T, 5, none⟩ = some (.int .u32 (n 5)) := by rw [Lib.cell_of_heap HB.out.2.1]; rfl
    have k0_6 : W.cell? ⟨T, 6, none⟩ = some (.int .u32 (n 6)) := by rw [Lib.cell_of_heap HB.out.2.1]; rfl
    have k0_7 : W.cell? ⟨T, 7, none⟩ = some (.int .u32 (n 7)) := by rw [Lib.cell_of_heap HB.out.2.1]; rfl
    have k0_8 : W.cell? ⟨T, 8, none⟩ = some (.int .u32 (n 8)) := by rw [Lib.cell_of_heap HB.out.2.1]; rfl
    have k0_9 : W.cell? ⟨T, 9, none⟩ = some (.int .u32 (n 9)) := by rw [Lib.cell_of_heap HB.out.2.1]; rfl
    have k1_0 : W.cell? ⟨T + 1, 0, none⟩ = some (.int .u32 (m 0)) := by rw [Lib.cell_of_heap HB.out.2.2.1]; rfl
    have k1_1 : W.cell? ⟨T + 1, 1, none⟩ = some (.int .u32 (m 1)) := by rw [Lib.cell_of_heap HB.out.2.2.1]; rfl
    have k1_2 : W.cell? ⟨T + 1, 2, none⟩ = some (.int .u32 (m 2)) := by rw [Lib.cell_of_heap HB.out.2.2.1]; rfl
    have k1_3 : W.cell? ⟨T + 1, 3, none⟩ = some (.int .u32 (m 3)) := by rw [Lib.cell_of_heap HB.out.2.2.1]; rfl
    have k1_4 : W.cell? ⟨T + 1, 4, none⟩ = some (.int .u32 (m 4)) := by rw [Lib.cell_of_heap HB.out.2.2.1]; rfl
    have k1_5 : W.cell? ⟨T + 1, 5, none⟩ = some (.int .u32 (m 5)) := by rw [Lib.cell_of_heap HB.out.2.2.1]; rfl
    have k1_6 : W.cell? ⟨T + 1, 6, none⟩ = some (.int .u32 (m 6)) := by rw [Lib.cell_of_heap HB.out.2.2.1]; rfl
    have k1_7 : W.cell? ⟨T + 1, 7, none⟩ = some (.int .u32 (m 7)) := by rw [Lib.cell_of_heap HB.out.2.2.1]; rfl
    have k1_8 : W.cell? ⟨T + 1, 8, none⟩ = some (.int .u32 (m 8)) := by rw [Lib.cell_of_heap HB.out.2.2.1]; rfl
    have k1_9 : W.cell? ⟨T + 1, 9, none⟩ = some (.int .u32 (m 9)) := by rw [Lib.cell_of_heap HB.out.2.2.1]; rfl
    have k2_0 : W.cell? ⟨T + 2, 0, none⟩ = some (.int .u32 (o 0)) := by rw [Lib.cell_of_heap HB.out.2.2.2]; rfl
    have k2_1 : W.cell? ⟨T + 2, 1, none⟩ = some (.int .u32 (o 1)) := by rw [Lib.cell_of_heap HB.out.2.2.2]; rfl
    have k2_2 : W.cell? ⟨T + 2, 2, none⟩ = some (.int .u32 (o 2)) := by rw [Lib.cell_of_heap HB.out.2.2.2]; rfl
    have k2_3 : W.cell? ⟨T + 2, 3, none⟩ = some (.int .u32 (o 3)) := by rw [Lib.cell_of_heap HB.out.2.2.2]; rfl
    have k2_4 : W.cell? ⟨T + 2, 4, none⟩ = some (.int .u32 (o 4)) := by rw [Lib.cell_of_heap HB.out.2.2.2]; rfl
    have k2_5 : W.cell? ⟨T + 2, 5, none⟩ = some (.int .u32 (o 5)) := by rw [Lib.cell_of_heap HB.out.2.2.2]; rfl
    have k2_6 : W.cell? ⟨T + 2, 6, none⟩ = some (.int .u32 (o 6)) := by rw [Lib.cell_of_heap HB.out.2.2.2]; rfl
    have k2_7 : W.cell? ⟨T + 2, 7, none⟩ = some (.int .u32 (o 7)) := by rw [Lib.cell_of_heap HB.out.2.2.2]; rfl
    have k2_8 : W.cell? ⟨T + 2, 8, none⟩ = some (.int .u32 (o 8)) := by rw [Lib.cell_of_heap HB.out.2.2.2]; rfl
    have k2_9 : W.cell? ⟨T + 2, 9, none⟩ = some (.int .u32 (o 9)) := by rw [Lib.cell_of_heap HB.out.2.2.2]; rfl
    have hT0 : T < W.heap.size := by omega
    have hT1 : T + 1 < W.heap.size := by omega
    have hT2 : T + 2 < W.heap.size := by omega
    refine wp_region_noPanic ?_
    refine wp_region_held_drew (S := fun w' => Later W w') (by kernel_rfl) (Later.refl W).drew (fun hHeld => ?_)
    refine wpAnyH_take (i := 0) (v := ?_) rfl (by kernel_rfl) (by kernel_rfl) (by kernel_rfl) (fun _ _ _ h => h) (Or.inl ⟨by rfl, ?_⟩) (by assumption) ?_
    rotate_left
    · (intro w' hSw; (try dsimp only at hSw); have c0 := cell_at hSw k0_0 hT0; have c1 := cell_at hSw k0_1 hT0; have c2 := cell_at hSw k0_2 hT0; have c3 := cell_at hSw k0_3 hT0; have c4 := cell_at hSw k0_4 hT0; have c5 := cell_at hSw k0_5 hT0; have c6 := cell_at hSw k0_6 hT0; have c7 := cell_at hSw k0_7 hT0; have c8 := cell_at hSw k0_8 hT0; have c9 := cell_at hSw k0_9 hT0; go_simp)
      all_goals with_reducible rfl
    try simp only [Act.put, List.setIfInBounds_toArray, List.set_cons_zero, List.set_cons_succ, List.getElem_toArray, List.getElem_cons_zero, List.getElem_cons_succ]
    refine wpAnyH_take (i := 1) (v := ?_) rfl (by kernel_rfl) (by kernel_rfl) (by kernel_rfl) (fun _ _ _ h => h) (Or.inl ⟨by rfl, ?_⟩) (by assumption) ?_
    rotate_left
    · (intro w' hSw; (try dsimp only at hSw); go_simp)
      all_goals with_reducible rfl
    try simp only [Act.put, List.setIfInBounds_toArray, List.set_cons_zero, List.set_cons_succ, List.getElem_toArray, List.getElem_cons_zero, List.getElem_cons_succ]
    refine wpAnyH_take (i := 3) (v := ?_) rfl (by kernel_rfl) (by kernel_rfl) (by kernel_rfl) (fun _ _ _ h => h) (Or.inl ⟨by rfl, ?_⟩) (by assumption) ?_
    rotate_left
    · (intro w' hSw; (try dsimp only at hSw); have c0 := cell_at hSw k1_0 hT1; have c1 := cell_at hSw k1_1 hT1; have c2 := cell_at hSw k1_2 hT1; have c3 := cell_at hSw k1_3 hT1; have c4 := cell_at hSw k1_4 hT1; have c5 := cell_at hSw k1_5 hT1; have c6 := cell_at hSw k1_6 hT1; have c7 := cell_at hSw k1_7 hT1; have c8 := cell_at hSw k1_8 hT1; have c9 := cell_at hSw k1_9 hT1; go_simp)
      all_goals with_reducible rfl
    try simp only [Act.put, List.setIfInBounds_toArray, List.set_cons_zero, List.set_cons_succ, List.getElem_toArray, List.getElem_cons_zero, List.getElem_cons_succ]
    refine wpAnyH_take (i := 4) (v := ?_) rfl (by kernel_rfl) (by kernel_rfl) (by kernel_rfl) (fun _ _ _ h => h) (Or.inl ⟨by rfl, ?_⟩) (by assumption) ?_
    rotate_left
    · (intro w' hSw; (try dsimp only at hSw); go_simp)
      all_goals with_reducible rfl
    try simp only [Act.put, List.setIfInBounds_toArray, List.set_cons_zero, List.set_cons_succ, List.getElem_toArray, List.getElem_cons_zero, List.getElem_cons_succ]
    refine wpAnyH_take (i := 6) (v := ?_) rfl (by kernel_rfl) (by kernel_rfl) (by kernel_rfl) (fun _ _ _ h => h) (Or.inl ⟨by rfl, ?_⟩) (by assumption) ?_
    rotate_left
    · (intro w' hSw; (try dsimp only at hSw); have c0 := cell_at hSw k2_0 hT2; have c1 := cell_at hSw k2_1 hT2; have c2 := cell_at hSw k2_2 hT2; have c3 := cell_at hSw k2_3 hT2; have c4 := cell_at hSw k2_4 hT2; have c5 := cell_at hSw k2_5 hT2; have c6 := cell_at hSw k2_6 hT2; have c7 := cell_at hSw k2_7 hT2; have c8 := cell_at hSw k2_8 hT2; have c9 := cell_at hSw k2_9 hT2; go_simp)
      all_goals with_reducible rfl
    try simp only [Act.put, List.setIfInBounds_toArray, List.set_cons_zero, List.set_cons_succ, List.getElem_toArray, List.getElem_cons_zero, List.getElem_cons_succ]
    refine wpAnyH_take (i := 7) (v := ?_) rfl (by kernel_rfl) (by kernel_rfl) (by kernel_rfl) (fun _ _ _ h => h) (Or.inl ⟨by rfl, ?_⟩) (by assumption) ?_
    rotate_left
    · (intro w' hSw; (try dsimp only at hSw); go_simp)
      all_goals with_reducible rfl
    try simp only [Act.put, List.setIfInBounds_toArray, List.set_cons_zero, List.set_cons_succ, List.getElem_toArray, List.getElem_cons_zero, List.getElem_cons_succ]
    refine reL (l' := #[true, true, false, true, true, false, true, true, false, false, false, false, false, false, false]) (by kernel_rfl) ?_
    refine capR (fun R hR => ?_)
    clear k0_0 k0_1 k0_2 k0_3 k0_4 k0_5 k0_6 k0_7 k0_8 k0_9 k1_0 k1_1 k1_2 k1_3 k1_4 k1_5 k1_6 k1_7 k1_8 k1_9 k2_0 k2_1 k2_2 k2_3 k2_4 k2_5 k2_6 k2_7 k2_8 k2_9
    have H3_123 : ∀ (u : World) (g1 g2 g3 : Nat), Later W u → W.heap.size ≤ g1 → u.heap[g1]? = some (.cells #[.int .u64 0, .int .u64 0, .int .u64 0, .int .u64 0, .int .u64 0, .int .u64 0, .int .u64 0, .int .u64 0, .int .u64 0, .int .u64 0, .complex .f64 0 0] 29 (0, 0)) → W.heap.size ≤ g2 → u.heap[g2]? = some (.cells #[.int .u64 0, .int .u64 0, .int .u64 0, .int .u64 0, .int .u64 0, .int .u64 0, .int .u64 0, .int .u64 0, .int .u64 0, .int .u64 0, .complex .f64 0 0] 29 (0, 0)) → W.heap.size ≤ g3 → u.heap[g3]? = some (.cells #[.int .u64 0, .int .u64 0, .int .u64 0, .int .u64 0, .int .u64 0, .int .u64 0, .int .u64 0, .int .u64 0, .int .u64 0, .int .u64 0, .complex .f64 0 0] 29 (0, 0)) → g1 ≠ g2 → g1 ≠ g3 → g2 ≠ g3 → R 3 #[true, true, true, true, true, true, true, true, true, true, true, true, false, false, false] { tmps := #[.agg #[.int .u32 (n 0), .int .u32 (n 1), .int .u32 (n 2), .int .u32 (n 3), .int .u32 (n 4), .int .u32 (n 5), .int .u32 (n 6), .int .u32 (n 7), .int .u32 (n 8), .int .u32 (n 9)], .agg #[.int .u32 (m 0), .int .u32 (m 1), .int .u32 (m 2), .int .u32 (m 3), .int .u32 (m 4), .int .u32 (m 5), .int .u32 (m 6), .int .u32 (m 7), .int .u32 (m 8), .int .u32 (m 9)], .agg #[.int .u32 (o 0), .int .u32 (o 1), .int .u32 (o 2), .int .u32 (o 3), .int .u32 (o 4), .int .u32 (o 5), .int .u32 (o 6), .int .u32 (o 7), .int .u32 (o 8), .int .u32 (o 9)], v1, v2, v3, .int .u8 fl, .pointer (some ⟨T, 0, none⟩), .pointer (some ⟨T + 1, 0, none⟩), .pointer (some ⟨T + 1 + 1, 0, none⟩), undef, undef, undef, undef, .bool false, .pointer (some ⟨g1, 0, none⟩), .pointer (some ⟨g2, 0, none⟩), .pointer (some ⟨g3, 0, none⟩), undef, undef, undef, undef, undef, undef, undef, undef, undef, undef, undef, undef, .agg #[.int .u32 (n 0), .int .u32 (n 1), .int .u32 (n 2), .int .u32 (n 3), .int .u32 (n 4), .int .u32 (n 5), .int .u32 (n 6), .int .u32 (n 7), .int .u32 (n 8), .int .u32 (n 9)], v1, .agg #[.int .u64 (n 0), .int .u64 (n 1), .int .u64 (n 2), .int .u64 (n 3), .int .u64 (n 4), .int .u64 (n 5), .int .u64 (n 6), .int .u64 (n 7), .int .u64 (n 8), .int .u64 (n 9), .complex .f64 A1 B1], .agg #[.int .u32 (m 0), .int .u32 (m 1), .int .u32 (m 2), .int .u32 (m 3), .int .u32 (m 4), .int .u32 (m 5), .int .u32 (m 6), .int .u32 (m 7), .int .u32 (m 8), .int .u32 (m 9)], v2, .agg #[.int .u64 (m 0), .int .u64 (m 1), .int .u64 (m 2), .int .u64 (m 3), .int .u64 (m 4), .int .u64 (m 5), .int .u64 (m 6), .int .u64 (m 7), .int .u64 (m 8), .int .u64 (m 9), .complex .f64 A2 B2], .agg #[.int .u32 (o 0), .int .u32 (o 1), .int .u32 (o 2), .int .u32 (o 3), .int .u32 (o 4), .int .u32 (o 5), .int .u32 (o 6), .int .u32 (o 7), .int .u32 (o 8), .int .u32 (o 9)], v3, .agg #[.int .u64 (o 0), .int .u64 (o 1), .int .u64 (o 2), .int .u64 (o 3), .int .u64 (o 4), .int .u64 (o 5), .int .u64 (o 6), .int .u64 (o 7), .int .u64 (o 8), .int .u64 (o 9), .complex .f64 A3 B3], undef, undef, undef, undef, undef, undef, undef, undef, undef, undef, undef, undef, undef, undef, undef, undef, undef, undef, undef, undef, undef, undef, undef, undef, undef, undef, undef, undef, undef, undef, undef, undef, undef, undef, undef, undef, undef, undef, undef, undef, undef, undef, undef, undef, undef, undef, undef, undef, undef, undef, undef, undef, undef, undef, undef, undef, undef, undef, undef, undef, undef, undef, undef, undef, undef, undef, undef, undef, undef, undef, undef, undef, undef, undef, undef, undef, undef, undef, undef, undef, undef, undef, undef, undef, undef, undef, undef, undef, undef, undef, undef, undef, undef, undef, undef, undef, undef], defers := [] } u := by
      intro u g1 g2 g3 hu hw1 he1 hw2 he2 hw3 he3 hn12 hn13 hn23
      rw [hR]
      have hl1 := below_setRow hu hw1 #[.int .u64 (n 0), .int .u64 (n 1), .int .u64 (n 2), .int .u64 (n 3), .int .u64 (n 4), .int .u64 (n 5), .int .u64 (n 6), .int .u64 (n 7), .int .u64 (n 8), .int .u64 (n 9), .complex .f64 A1 B1]
      refine wpAnyH_ready (rs := [12]) (by kernel_rfl) (by simp) ?_
      refine AllReadyH.cons (i := 12) rfl (fun K hK => ?_) AllReadyH.nil
      try simp only [List.getElem_toArray, List.getElem_cons_zero, List.getElem_cons_succ]
      refine wp_store_row 29 (.tmp 15) (.tmp 32) rfl _ #[.int .u64 (n 0), .int .u64 (n 1), .int .u64 (n 2), .int .u64 (n 3), .int .u64 (n 4), .int .u64 (n 5), .int .u64 (n 6), .int .u64 (n 7), .int .u64 (n 8), .int .u64 (n 9), .complex .f64 A1 B1] rfl rfl 29 #[.int .u64 0, .int .u64 0, .int .u64 0, .int .u64 0, .int .u64 0, .int .u64 0, .int .u64 0, .int .u64 0, .int .u64 0, .int .u64 0, .complex .f64 0 0] he1 (by kernel_rfl) rfl (by kernel_rfl) ?_
      refine hK.out _ _ hl1 (fun hHeld => ?_)
      clear hK K
      try simp only [Act.put, List.setIfInBounds_toArray, List.set_cons_zero, List.set_cons_succ, List.getElem_toArray, List.getElem_cons_zero, List.getElem_cons_succ]
      have hl2 := below_setRow hl1 hw2 #[.int .u64 (m 0), .int .u64 (m 1), .int .u64 (m 2), .int .u64 (m 3), .int .u64 (m 4), .int .u64 (m 5), .int .u64 (m 6), .int .u64 (m 7), .int .u64 (m 8), .int .u64 (m 9), .complex .f64 A2 B2]
      have he2' := (setRow_other u g1 g2 #[.int .u64 (n 0), .int .u64 (n 1), .int .u64 (n 2), .int .u64 (n 3), .int .u64 (n 4), .int .u64 (n 5), .int .u64 (n 6), .int .u64 (n 7), .int .u64 (n 8), .int .u64 (n 9), .complex .f64 A1 B1] (Ne.symm hn12)).trans he2
      refine wpAnyH_ready (rs := [13]) (by kernel_rfl) (by simp) ?_
      refine AllReadyH.cons (i := 13) rfl (fun K hK => ?_) AllReadyH.nil
      try simp only [List.getElem_toArray, List.getElem_cons_zero, List.getElem_cons_succ]
      refine wp_store_row 29 (.tmp 16) (.tmp 35) rfl _ #[.int .u64 (m 0), .int .u64 (m 1), .int .u64 (m 2), .int .u64 (m 3), .int .u64 (m 4), .int .u64 (m 5), .int .u64 (m 6), .int .u64 (m 7), .int .u64 (m 8), .int .u64 (m 9), .complex .f64 A2 B2] rfl rfl 29 #[.int .u64 0, .int .u64 0, .int .u64 0, .int .u64 0, .int .u64 0, .int .u64 0, .int .u64 0, .int .u64 0, .int .u64 0, .int .u64 0, .complex .f64 0 0] he2' (by kernel_rfl) rfl (by kernel_rfl) ?_
      refine hK.out _ _ hl2 (fun hHeld => ?_)
      clear hK K
      try simp only [Act.put, List.setIfInBounds_toArray, List.set_cons_zero, List.set_cons_succ, List.getElem_toArray, List.getElem_cons_zero, List.getElem_cons_succ]
      have hl3 := below_setRow hl2 hw3 #[.int .u64 (o 0), .int .u64 (o 1), .int .u64 (o 2), .int .u64 (o 3), .int .u64 (o 4), .int .u64 (o 5), .int .u64 (o 6), .int .u64 (o 7), .int .u64 (o 8), .int .u64 (o 9), .complex .f64 A3 B3]
      have he3' := (setRow_other (u.setRow g1 #[.int .u64 (n 0), .int .u64 (n 1), .int .u64 (n 2), .int .u64 (n 3), .int .u64 (n 4), .int .u64 (n 5), .int .u64 (n 6), .int .u64 (n 7), .int .u64 (n 8), .int .u64 (n 9), .complex .f64 A1 B1]) g2 g3 #[.int .u64 (m 0), .int .u64 (m 1), .int .u64 (m 2), .int .u64 (m 3), .int .u64 (m 4), .int .u64 (m 5), .int .u64 (m 6), .int .u64 (m 7), .int .u64 (m 8), .int .u64 (m 9), .complex .f64 A2 B2] (Ne.symm hn23)).trans ((setRow_other u g1 g3 #[.int .u64 (n 0), .int .u64 (n 1), .int .u64 (n 2), .int .u64 (n 3), .int .u64 (n 4), .int .u64 (n 5), .int .u64 (n 6), .int .u64 (n 7), .int .u64 (n 8), .int .u64 (n 9), .complex .f64 A1 B1] (Ne.symm hn13)).trans he3)
      refine wpAnyH_ready (rs := [14]) (by kernel_rfl) (by simp) ?_
      refine AllReadyH.cons (i := 14) rfl (fun K hK => ?_) AllReadyH.nil
      try simp only [List.getElem_toArray, List.getElem_cons_zero, List.getElem_cons_succ]
      refine wp_store_row 29 (.tmp 17) (.tmp 38) rfl _ #[.int .u64 (o 0), .int .u64 (o 1), .int .u64 (o 2), .int .u64 (o 3), .int .u64 (o 4), .int .u64 (o 5), .int .u64 (o 6), .int .u64 (o 7), .int .u64 (o 8), .int .u64 (o 9), .complex .f64 A3 B3] rfl rfl 29 #[.int .u64 0, .int .u64 0, .int .u64 0, .int .u64 0, .int .u64 0, .int .u64 0, .int .u64 0, .int .u64 0, .int .u64 0, .int .u64 0, .complex .f64 0 0] he3' (by kernel_rfl) rfl (by kernel_rfl) ?_
      refine hK.out _ _ hl3 (fun hHeld => ?_)
      clear hK K
      try simp only [Act.put, List.setIfInBounds_toArray, List.set_cons_zero, List.set_cons_succ, List.getElem_toArray, List.getElem_cons_zero, List.getElem_cons_succ]
      have e1 := setRow_heap u g1 _ #[.int .u64 (n 0), .int .u64 (n 1), .int .u64 (n 2), .int .u64 (n 3), .int .u64 (n 4), .int .u64 (n 5), .int .u64 (n 6), .int .u64 (n 7), .int .u64 (n 8), .int .u64 (n 9), .complex .f64 A1 B1] 29 (0, 0) he1
      have e2 := setRow_heap _ g2 _ #[.int .u64 (m 0), .int .u64 (m 1), .int .u64 (m 2), .int .u64 (m 3), .int .u64 (m 4), .int .u64 (m 5), .int .u64 (m 6), .int .u64 (m 7), .int .u64 (m 8), .int .u64 (m 9), .complex .f64 A2 B2] 29 (0, 0) he2'
      have e3 := setRow_heap _ g3 _ #[.int .u64 (o 0), .int .u64 (o 1), .int .u64 (o 2), .int .u64 (o 3), .int .u64 (o 4), .int .u64 (o 5), .int .u64 (o 6), .int .u64 (o 7), .int .u64 (o 8), .int .u64 (o 9), .complex .f64 A3 B3] 29 (0, 0) he3'
      have e1' := (setRow_other _ g3 g1 #[.int .u64 (o 0), .int .u64 (o 1), .int .u64 (o 2), .int .u64 (o 3), .int .u64 (o 4), .int .u64 (o 5), .int .u64 (o 6), .int .u64 (o 7), .int .u64 (o 8), .int .u64 (o 9), .complex .f64 A3 B3] hn13).trans ((setRow_other _ g2 g1 #[.int .u64 (m 0), .int .u64 (m 1), .int .u64 (m 2), .int .u64 (m 3), .int .u64 (m 4), .int .u64 (m 5), .int .u64 (m 6), .int .u64 (m 7), .int .u64 (m 8), .int .u64 (m 9), .complex .f64 A2 B2] hn12).trans e1)
      have e2' := (setRow_other _ g3 g2 #[.int .u64 (o 0), .int .u64 (o 1), .int .u64 (o 2), .int .u64 (o 3), .int .u64 (o 4), .int .u64 (o 5), .int .u64 (o 6), .int .u64 (o 7), .int .u64 (o 8), .int .u64 (o 9), .complex .f64 A3 B3] hn23).trans e2
      have hthree : Three W (((u.setRow g1 #[.int .u64 (n 0), .int .u64 (n 1), .int .u64 (n 2), .int .u64 (n 3), .int .u64 (n 4), .int .u64 (n 5), .int .u64 (n 6), .int .u64 (n 7), .int .u64 (n 8), .int .u64 (n 9), .complex .f64 A1 B1]).setRow g2 #[.int .u64 (m 0), .int .u64 (m 1), .int .u64 (m 2), .int .u64 (m 3), .int .u64 (m 4), .int .u64 (m 5), .int .u64 (m 6), .int .u64 (m 7), .int .u64 (m 8), .int .u64 (m 9), .complex .f64 A2 B2]).setRow g3 #[.int .u64 (o 0), .int .u64 (o 1), .int .u64 (o 2), .int .u64 (o 3), .int .u64 (o 4), .int .u64 (o 5), .int .u64 (o 6), .int .u64 (o 7), .int .u64 (o 8), .int .u64 (o 9), .complex .f64 A3 B3]) g1 g2 g3 n m o A1 B1 A2 B2 A3 B3 := ⟨hl3, ⟨hw1, hw2, hw3, hn12, hn13, hn23⟩, e1', e2', e3⟩
      clear e1 e2 e3 e1' e2' he1 he2 he2' he3 he3' hl1 hl2 hl3 hu
      generalize ((u.setRow g1 #[.int .u64 (n 0), .int .u64 (n 1), .int .u64 (n 2), .int .u64 (n 3), .int .u64 (n 4), .int .u64 (n 5), .int .u64 (n 6), .int .u64 (n 7), .int .u64 (n 8), .int .u64 (n 9), .complex .f64 A1 B1]).setRow g2 #[.int .u64 (m 0), .int .u64 (m 1), .int .u64 (m 2), .int .u64 (m 3), .int .u64 (m 4), .int .u64 (m 5), .int .u64 (m 6), .int .u64 (m 7), .int .u64 (m 8), .int .u64 (m 9), .complex .f64 A2 B2]).setRow g3 #[.int .u64 (o 0), .int .u64 (o 1), .int .u64 (o 2), .int .u64 (o 3), .int .u64 (o 4), .int .u64 (o 5), .int .u64 (o 6), .int .u64 (o 7), .int .u64 (o 8), .int .u64 (o 9), .complex .f64 A3 B3] = UU at *
      refine wpAnyH_done (by kernel_rfl) ?_ _
      refine NoPanic.normal ?_
      go_wp2_with fail
      go_meet
      exact ⟨g1, g2, g3, rfl, rfl, rfl, hthree⟩
    have H3_12 : ∀ (u : World) (g1 g2 : Nat), Later W u → W.heap.size ≤ g1 → u.heap[g1]? = some (.cells #[.int .u64 0, .int .u64 0, .int .u64 0, .int .u64 0, .int .u64 0, .int .u64 0, .int .u64 0, .int .u64 0, .int .u64 0, .int .u64 0, .complex .f64 0 0] 29 (0, 0)) → W.heap.size ≤ g2 → u.heap[g2]? = some (.cells #[.int .u64 0, .int .u64 0, .int .u64 0, .int .u64 0, .int .u64 0, .int .u64 0, .int .u64 0, .int .u64 0, .int .u64 0, .int .u64 0, .complex .f64 0 0] 29 (0, 0)) → g1 ≠ g2 → R 4 #[true, true, true, true, true, true, true, true, true, true, true, false, false, false, false] { tmps := #[.agg #[.int .u32 (n 0), .int .u32 (n 1), .int .u32 (n 2), .int .u32 (n 3), .int .u32 (n 4), .int .u32 (n 5), .int .u32 (n 6), .int .u32 (n 7), .int .u32 (n 8), .int .u32 (n 9)], .agg #[.int .u32 (m 0), .int .u32 (m 1), .int .u32 (m 2), .int .u32 (m 3), .int .u32 (m 4), .int .u32 (m 5), .int .u32 (m 6), .int .u32 (m 7), .int .u32 (m 8), .int .u32 (m 9)], .agg #[.int .u32 (o 0), .int .u32 (o 1), .int .u32 (o 2), .int .u32 (o 3), .int .u32 (o 4), .int .u32 (o 5), .int .u32 (o 6), .int .u32 (o 7), .int .u32 (o 8), .int .u32 (o 9)], v1, v2, v3, .int .u8 fl, .pointer (some ⟨T, 0, none⟩), .pointer (some ⟨T + 1, 0, none⟩), .pointer (some ⟨T + 1 + 1, 0, none⟩), undef, undef, undef, undef, .bool false, .pointer (some ⟨g1, 0, none⟩), .pointer (some ⟨g2, 0, none⟩), undef, undef, undef, undef, undef, undef, undef, undef, undef, undef, undef, undef, undef, .agg #[.int .u32 (n 0), .int .u32 (n 1), .int .u32 (n 2), .int .u32 (n 3), .int .u32 (n 4), .int .u32 (n 5), .int .u32 (n 6), .int .u32 (n 7), .int .u32 (n 8), .int .u32 (n 9)], v1, .agg #[.int .u64 (n 0), .int .u64 (n 1), .int .u64 (n 2), .int .u64 (n 3), .int .u64 (n 4), .int .u64 (n 5), .int .u64 (n 6), .int .u64 (n 7), .int .u64 (n 8), .int .u64 (n 9), .complex .f64 A1 B1], .agg #[.int .u32 (m 0), .int .u32 (m 1), .int .u32 (m 2), .int .u32 (m 3), .int .u32 (m 4), .int .u32 (m 5), .int .u32 (m 6), .int .u32 (m 7), .int .u32 (m 8), .int .u32 (m 9)], v2, .agg #[.int .u64 (m 0), .int .u64 (m 1), .int .u64 (m 2), .int .u64 (m 3), .int .u64 (m 4), .int .u64 (m 5), .int .u64 (m 6), .int .u64 (m 7), .int .u64 (m 8), .int .u64 (m 9), .complex .f64 A2 B2], .agg #[.int .u32 (o 0), .int .u32 (o 1), .int .u32 (o 2), .int .u32 (o 3), .int .u32 (o 4), .int .u32 (o 5), .int .u32 (o 6), .int .u32 (o 7), .int .u32 (o 8), .int .u32 (o 9)], v3, .agg #[.int .u64 (o 0), .int .u64 (o 1), .int .u64 (o 2), .int .u64 (o 3), .int .u64 (o 4), .int .u64 (o 5), .int .u64 (o 6), .int .u64 (o 7), .int .u64 (o 8), .int .u64 (o 9), .complex .f64 A3 B3], undef, undef, undef, undef, undef, undef, undef, undef, undef, undef, undef, undef, undef, undef, undef, undef, undef, undef, undef, undef, undef, undef, undef, undef, undef, undef, undef, undef, undef, undef, undef, undef, undef, undef, undef, undef, undef, undef, undef, undef, undef, undef, undef, undef, undef, undef, undef, undef, undef, undef, undef, undef, undef, undef, undef, undef, undef, undef, undef, undef, undef, undef, undef, undef, undef, undef, undef, undef, undef, undef, undef, undef, undef, undef, undef, undef, undef, undef, undef, undef, undef, undef, undef, undef, undef, undef, undef, undef, undef, undef, undef, undef, undef, undef, undef, undef, undef], defers := [] } u := by
      intro u g1 g2 hu hw1 he1 hw2 he2 hn12
      rw [hR]
      refine wpAnyH_ready (rs := [11]) (by kernel_rfl) (by simp) ?_
      refine AllReadyH.cons (i := 11) rfl (fun K hK => ?_) ?_
      · try simp only [List.getElem_toArray, List.getElem_cons_zero, List.getElem_cons_succ]
        go_simp
        refine hK.out _ _ (hu.alloc (.cells #[.int .u64 0, .int .u64 0, .int .u64 0, .int .u64 0, .int .u64 0, .int .u64 0, .int .u64 0, .int .u64 0, .int .u64 0, .int .u64 0, .complex .f64 0 0] 29)) (fun hHeld => ?_)
        clear hK K
        try simp only [Act.put, List.setIfInBounds_toArray, List.set_cons_zero, List.set_cons_succ, List.getElem_toArray, List.getElem_cons_zero, List.getElem_cons_succ]
        have hnx := H3_123 (u.alloc (.cells #[.int .u64 0, .int .u64 0, .int .u64 0, .int .u64 0, .int .u64 0, .int .u64 0, .int .u64 0, .int .u64 0, .int .u64 0, .int .u64 0, .complex .f64 0 0] 29)) g1 g2 u.heap.size (hu.alloc (.cells #[.int .u64 0, .int .u64 0, .int .u64 0, .int .u64 0, .int .u64 0, .int .u64 0, .int .u64 0, .int .u64 0, .int .u64 0, .int .u64 0, .complex .f64 0 0] 29)) hw1 ((Below.block ((Later.refl u).alloc (.cells #[.int .u64 0, .int .u64 0, .int .u64 0, .int .u64 0, .int .u64 0, .int .u64 0, .int .u64 0, .int .u64 0, .int .u64 0, .int .u64 0, .complex .f64 0 0] 29)) _ (lt_of_heap he1)).trans he1) hw2 ((Below.block ((Later.refl u).alloc (.cells #[.int .u64 0, .int .u64 0, .int .u64 0, .int .u64 0, .int .u64 0, .int .u64 0, .int .u64 0, .int .u64 0, .int .u64 0, .int .u64 0, .complex .f64 0 0] 29)) _ (lt_of_heap he2)).trans he2) hu.size (heap_alloc_last u (.cells #[.int .u64 0, .int .u64 0, .int .u64 0, .int .u64 0, .int .u64 0, .int .u64 0, .int .u64 0, .int .u64 0, .int .u64 0, .int .u64 0, .complex .f64 0 0] 29)) hn12 (Nat.ne_of_lt (lt_of_heap he1)) (Nat.ne_of_lt (lt_of_heap he2))
        rw [hR] at hnx
        exact reL (by kernel_rfl) hnx
      exact AllReadyH.nil
    have H3_13 : ∀ (u : World) (g1 g3 : Nat), Later W u → W.heap.size ≤ g1 → u.heap[g1]? = some (.cells #[.int .u64 0, .int .u64 0, .int .u64 0, .int .u64 0, .int .u64 0, .int .u64 0, .int .u64 0, .int .u64 0, .int .u64 0, .int .u64 0, .complex .f64 0 0] 29 (0, 0)) → W.heap.size ≤ g3 → u.heap[g3]? = some (.cells #[.int .u64 0, .int .u64 0, .int .u64 0, .int .u64 0, .int .u64 0, .int .u64 0, .int .u64 0, .int .u64 0, .int .u64 0, .int .u64 0, .complex .f64 0 0] 29 (0, 0)) → g1 ≠ g3 → R 4 #[true, true, true, true, true, true, true, true, true, true, false, true, false, false, false] { tmps := #[.agg #[.int .u32 (n 0), .int .u32 (n 1), .int .u32 (n 2), .int .u32 (n 3), .int .u32 (n 4), .int .u32 (n 5), .int .u32 (n 6), .int .u32 (n 7), .int .u32 (n 8), .int .u32 (n 9)], .agg #[.int .u32 (m 0), .int .u32 (m 1), .int .u32 (m 2), .int .u32 (m 3), .int .u32 (m 4), .int .u32 (m 5), .int .u32 (m 6), .int .u32 (m 7), .int .u32 (m 8), .int .u32 (m 9)], .agg #[.int .u32 (o 0), .int .u32 (o 1), .int .u32 (o 2), .int .u32 (o 3), .int .u32 (o 4), .int .u32 (o 5), .int .u32 (o 6), .int .u32 (o 7), .int .u32 (o 8), .int .u32 (o 9)], v1, v2, v3, .int .u8 fl, .pointer (some ⟨T, 0, none⟩), .pointer (some ⟨T + 1, 0, none⟩), .pointer (some ⟨T + 1 + 1, 0, none⟩), undef, undef, undef, undef, .bool false, .pointer (some ⟨g1, 0, none⟩), undef, .pointer (some ⟨g3, 0, none⟩), undef, undef, undef, undef, undef, undef, undef, undef, undef, undef, undef, undef, .agg #[.int .u32 (n 0), .int .u32 (n 1), .int .u32 (n 2), .int .u32 (n 3), .int .u32 (n 4), .int .u32 (n 5), .int .u32 (n 6), .int .u32 (n 7), .int .u32 (n 8), .int .u32 (n 9)], v1, .agg #[.int .u64 (n 0), .int .u64 (n 1), .int .u64 (n 2), .int .u64 (n 3), .int .u64 (n 4), .int .u64 (n 5), .int .u64 (n 6), .int .u64 (n 7), .int .u64 (n 8), .int .u64 (n 9), .complex .f64 A1 B1], .agg #[.int .u32 (m 0), .int .u32 (m 1), .int .u32 (m 2), .int .u32 (m 3), .int .u32 (m 4), .int .u32 (m 5), .int .u32 (m 6), .int .u32 (m 7), .int .u32 (m 8), .int .u32 (m 9)], v2, .agg #[.int .u64 (m 0), .int .u64 (m 1), .int .u64 (m 2), .int .u64 (m 3), .int .u64 (m 4), .int .u64 (m 5), .int .u64 (m 6), .int .u64 (m 7), .int .u64 (m 8), .int .u64 (m 9), .complex .f64 A2 B2], .agg #[.int .u32 (o 0), .int .u32 (o 1), .int .u32 (o 2), .int .u32 (o 3), .int .u32 (o 4), .int .u32 (o 5), .int .u32 (o 6), .int .u32 (o 7), .int .u32 (o 8), .int .u32 (o 9)], v3, .agg #[.int .u64 (o 0), .int .u64 (o 1), .int .u64 (o 2), .int .u64 (o 3), .int .u64 (o 4), .int .u64 (o 5), .int .u64 (o 6), .int .u64 (o 7), .int .u64 (o 8), .int .u64 (o 9), .complex .f64 A3 B3], undef, undef, undef, undef, undef, undef, undef, undef, undef, undef, undef, undef, undef, undef, undef, undef, undef, undef, undef, undef, undef, undef, undef, undef, undef, undef, undef, undef, undef, undef, undef, undef, undef, undef, undef, undef, undef, undef, undef, undef, undef, undef, undef, undef, undef, undef, undef, undef, undef, undef, undef, undef, undef, undef, undef, undef, undef, undef, undef, undef, undef, undef, undef, undef, undef, undef, undef, undef, undef, undef, undef, undef, undef, undef, undef, undef, undef, undef, undef, undef, undef, undef, undef, undef, undef, undef, undef, undef, undef, undef, undef, undef, undef, undef, undef, undef, undef], defers := [] } u := by
      intro u g1 g3 hu hw1 he1 hw3 he3 hn13
      rw [hR]
      refine wpAnyH_ready (rs := [10]) (by kernel_rfl) (by simp) ?_
      refine AllReadyH.cons (i := 10) rfl (fun K hK => ?_) ?_
      · try simp only [List.getElem_toArray, List.getElem_cons_zero, List.getElem_cons_succ]
        go_simp
        refine hK.out _ _ (hu.alloc (.cells #[.int .u64 0, .int .u64 0, .int .u64 0, .int .u64 0, .int .u64 0, .int .u64 0, .int .u64 0, .int .u64 0, .int .u64 0, .int .u64 0, .complex .f64 0 0] 29)) (fun hHeld => ?_)
        clear hK K
        try simp only [Act.put, List.setIfInBounds_toArray, List.set_cons_zero, List.set_cons_succ, List.getElem_toArray, List.getElem_cons_zero, List.getElem_cons_succ]
        have hnx := H3_123 (u.alloc (.cells #[.int .u64 0, .int .u64 0, .int .u64 0, .int .u64 0, .int .u64 0, .int .u64 0, .int .u64 0, .int .u64 0, .int .u64 0, .int .u64 0, .complex .f64 0 0] 29)) g1 u.heap.size g3 (hu.alloc (.cells #[.int .u64 0, .int .u64 0, .int .u64 0, .int .u64 0, .int .u64 0, .int .u64 0, .int .u64 0, .int .u64 0, .int .u64 0, .int .u64 0, .complex .f64 0 0] 29)) hw1 ((Below.block ((Later.refl u).alloc (.cells #[.int .u64 0, .int .u64 0, .int .u64 0, .int .u64 0, .int .u64 0, .int .u64 0, .int .u64 0, .int .u64 0, .int .u64 0, .int .u64 0, .complex .f64 0 0] 29)) _ (lt_of_heap he1)).trans he1) hu.size (heap_alloc_last u (.cells #[.int .u64 0, .int .u64 0, .int .u64 0, .int .u64 0, .int .u64 0, .int .u64 0, .int .u64 0, .int .u64 0, .int .u64 0, .int .u64 0, .complex .f64 0 0] 29)) hw3 ((Below.block ((Later.refl u).alloc (.cells #[.int .u64 0, .int .u64 0, .int .u64 0, .int .u64 0, .int .u64 0, .int .u64 0, .int .u64 0, .int .u64 0, .int .u64 0, .int .u64 0, .complex .f64 0 0] 29)) _ (lt_of_heap he3)).trans he3) (Nat.ne_of_lt (lt_of_heap he1)) hn13 (Nat.ne_of_gt (lt_of_heap he3))
        rw [hR] at hnx
        exact reL (by kernel_rfl) hnx
      exact AllReadyH.nil
    have H3_23 : ∀ (u : World) (g2 g3 : Nat), Later W u → W.heap.size ≤ g2 → u.heap[g2]? = some (.cells #[.int .u64 0, .int .u64 0, .int .u64 0, .int .u64 0, .int .u64 0, .int .u64 0, .int .u64 0, .int .u64 0, .int .u64 0, .int .u64 0, .complex .f64 0 0] 29 (0, 0)) → W.heap.size ≤ g3 → u.heap[g3]? = some (.cells #[.int .u64 0, .int .u64 0, .int .u64 0, .int .u64 0, .int .u64 0, .int .u64 0, .int .u64 0, .int .u64 0, .int .u64 0, .int .u64 0, .complex .f64 0 0] 29 (0, 0)) → g2 ≠ g3 → R 4 #[true, true, true, true, true, true, true, true, true, false, true, true, false, false, false] { tmps := #[.agg #[.int .u32 (n 0), .int .u32 (n 1), .int .u32 (n 2), .int .u32 (n 3), .int .u32 (n 4), .int .u32 (n 5), .int .u32 (n 6), .int .u32 (n 7), .int .u32 (n 8), .int .u32 (n 9)], .agg #[.int .u32 (m 0), .int .u32 (m 1), .int .u32 (m 2), .int .u32 (m 3), .int .u32 (m 4), .int .u32 (m 5), .int .u32 (m 6), .int .u32 (m 7), .int .u32 (m 8), .int .u32 (m 9)], .agg #[.int .u32 (o 0), .int .u32 (o 1), .int .u32 (o 2), .int .u32 (o 3), .int .u32 (o 4), .int .u32 (o 5), .int .u32 (o 6), .int .u32 (o 7), .int .u32 (o 8), .int .u32 (o 9)], v1, v2, v3, .int .u8 fl, .pointer (some ⟨T, 0, none⟩), .pointer (some ⟨T + 1, 0, none⟩), .pointer (some ⟨T + 1 + 1, 0, none⟩), undef, undef, undef, undef, .bool false, undef, .pointer (some ⟨g2, 0, none⟩), .pointer (some ⟨g3, 0, none⟩), undef, undef, undef, undef, undef, undef, undef, undef, undef, undef, undef, undef, .agg #[.int .u32 (n 0), .int .u32 (n 1), .int .u32 (n 2), .int .u32 (n 3), .int .u32 (n 4), .int .u32 (n 5), .int .u32 (n 6), .int .u32 (n 7), .int .u32 (n 8), .int .u32 (n 9)], v1, .agg #[.int .u64 (n 0), .int .u64 (n 1), .int .u64 (n 2), .int .u64 (n 3), .int .u64 (n 4), .int .u64 (n 5), .int .u64 (n 6), .int .u64 (n 7), .int .u64 (n 8), .int .u64 (n 9), .complex .f64 A1 B1], .agg #[.int .u32 (m 0), .int .u32 (m 1), .int .u32 (m 2), .int .u32 (m 3), .int .u32 (m 4), .int .u32 (m 5), .int .u32 (m 6), .int .u32 (m 7), .int .u32 (m 8), .int .u32 (m 9)], v2, .agg #[.int .u64 (m 0), .int .u64 (m 1), .int .u64 (m 2), .int .u64 (m 3), .int .u64 (m 4), .int .u64 (m 5), .int .u64 (m 6), .int .u64 (m 7), .int .u64 (m 8), .int .u64 (m 9), .complex .f64 A2 B2], .agg #[.int .u32 (o 0), .int .u32 (o 1), .int .u32 (o 2), .int .u32 (o 3), .int .u32 (o 4), .int .u32 (o 5), .int .u32 (o 6), .int .u32 (o 7), .int .u32 (o 8), .int .u32 (o 9)], v3, .agg #[.int .u64 (o 0), .int .u64 (o 1), .int .u64 (o 2), .int .u64 (o 3), .int .u64 (o 4), .int .u64 (o 5), .int .u64 (o 6), .int .u64 (o 7), .int .u64 (o 8), .int .u64 (o 9), .complex .f64 A3 B3], undef, undef, undef, undef, undef, undef, undef, undef, undef, undef, undef, undef, undef, undef, undef, undef, undef, undef, undef, undef, undef, undef, undef, undef, undef, undef, undef, undef, undef, undef, undef, undef, undef, undef, undef, undef, undef, undef, undef, undef, undef, undef, undef, undef, undef, undef, undef, undef, undef, undef, undef, undef, undef, undef, undef, undef, undef, undef, undef, undef, undef, undef, undef, undef, undef, undef, undef, undef, undef, undef, undef, undef, undef, undef, undef, undef, undef, undef, undef, undef, undef, undef, undef, undef, undef, undef, undef, undef, undef, undef, undef, undef, undef, undef, undef, undef, undef], defers := [] } u := by
      intro u g2 g3 hu hw2 he2 hw3 he3 hn23
      rw [hR]
      refine wpAnyH_ready (rs := [9]) (by kernel_rfl) (by simp) ?_
      refine AllReadyH.cons (i := 9) rfl (fun K hK => ?_) ?_
      · try simp only [List.getElem_toArray, List.getElem_cons_zero, List.getElem_cons_succ]
        go_simp
        refine hK.out _ _ (hu.alloc (.cells #[.int .u64 0, .int .u64 0, .int .u64 0, .int .u64 0, .int .u64 0, .int .u64 0, .int .u64 0, .int .u64 0, .int .u64 0, .int .u64 0, .complex .f64 0 0] 29)) (fun hHeld => ?_)
        clear hK K
        try simp only [Act.put, List.setIfInBounds_toArray, List.set_cons_zero, List.set_cons_succ, List.getElem_toArray, List.getElem_cons_zero, List.getElem_cons_succ]
        have hnx := H3_123 (u.alloc (.cells #[.int .u64 0, .int .u64 0, .int .u64 0, .int .u64 0, .int .u64 0, .int .u64 0, .int .u64 0, .int .u64 0, .int .u64 0, .int .u64 0, .complex .f64 0 0] 29)) u.heap.size g2 g3 (hu.alloc (.cells #[.int .u64 0, .int .u64 0, .int .u64 0, .int .u64 0, .int .u64 0, .int .u64 0, .int .u64 0, .int .u64 0, .int .u64 0, .int .u64 0, .complex .f64 0 0] 29)) hu.size (heap_alloc_last u (.cells #[.int .u64 0, .int .u64 0, .int .u64 0, .int .u64 0, .int .u64 0, .int .u64 0, .int .u64 0, .int .u64 0, .int .u64 0, .int .u64 0, .complex .f64 0 0] 29)) hw2 ((Below.block ((Later.refl u).alloc (.cells #[.int .u64 0, .int .u64 0, .int .u64 0, .int .u64 0, .int .u64 0, .int .u64 0, .int .u64 0, .int .u64 0, .int .u64 0, .int .u64 0, .complex .f64 0 0] 29)) _ (lt_of_heap he2)).trans he2) hw3 ((Below.block ((Later.refl u).alloc (.cells #[.int .u64 0, .int .u64 0, .int .u64 0, .int .u64 0, .int .u64 0, .int .u64 0, .int .u64 0, .int .u64 0, .int .u64 0, .int .u64 0, .complex .f64 0 0] 29)) _ (lt_of_heap he3)).trans he3) (Nat.ne_of_gt (lt_of_heap he2)) (Nat.ne_of_gt (lt_of_heap he3)) hn23
        rw [hR] at hnx
        exact reL (by kernel_rfl) hnx
      exact AllReadyH.nil
    have H3_1 : ∀ (u : World) (g1 : Nat), Later W u → W.heap.size ≤ g1 → u.heap[g1]? = some (.cells #[.int .u64 0, .int .u64 0, .int .u64 0, .int .u64 0, .int .u64 0, .int .u64 0, .int .u64 0, .int .u64 0, .int .u64 0, .int .u64 0, .complex .f64 0 0] 29 (0, 0)) → R 5 #[true, true, true, true, true, true, true, true, true, true, false, false, false, false, false] { tmps := #[.agg #[.int .u32 (n 0), .int .u32 (n 1), .int .u32 (n 2), .int .u32 (n 3), .int .u32 (n 4), .int .u32 (n 5), .int .u32 (n 6), .int .u32 (n 7), .int .u32 (n 8), .int .u32 (n 9)], .agg #[.int .u32 (m 0), .int .u32 (m 1), .int .u32 (m 2), .int .u32 (m 3), .int .u32 (m 4), .int .u32 (m 5), .int .u32 (m 6), .int .u32 (m 7), .int .u32 (m 8), .int .u32 (m 9)], .agg #[.int .u32 (o 0), .int .u32 (o 1), .int .u32 (o 2), .int .u32 (o 3), .int .u32 (o 4), .int .u32 (o 5), .int .u32 (o 6), .int .u32 (o 7), .int .u32 (o 8), .int .u32 (o 9)], v1, v2, v3, .int .u8 fl, .pointer (some ⟨T, 0, none⟩), .pointer (some ⟨T + 1, 0, none⟩), .pointer (some ⟨T + 1 + 1, 0, none⟩), undef, undef, undef, undef, .bool false, .pointer (some ⟨g1, 0, none⟩), undef, undef, undef, undef, undef, undef, undef, undef, undef, undef, undef, undef, undef, undef, .agg #[.int .u32 (n 0), .int .u32 (n 1), .int .u32 (n 2), .int .u32 (n 3), .int .u32 (n 4), .int .u32 (n 5), .int .u32 (n 6), .int .u32 (n 7), .int .u32 (n 8), .int .u32 (n 9)], v1, .agg #[.int .u64 (n 0), .int .u64 (n 1), .int .u64 (n 2), .int .u64 (n 3), .int .u64 (n 4), .int .u64 (n 5), .int .u64 (n 6), .int .u64 (n 7), .int .u64 (n 8), .int .u64 (n 9), .complex .f64 A1 B1], .agg #[.int .u32 (m 0), .int .u32 (m 1), .int .u32 (m 2), .int .u32 (m 3), .int .u32 (m 4), .int .u32 (m 5), .int .u32 (m 6), .int .u32 (m 7), .int .u32 (m 8), .int .u32 (m 9)], v2, .agg #[.int .u64 (m 0), .int .u64 (m 1), .int .u64 (m 2), .int .u64 (m 3), .int .u64 (m 4), .int .u64 (m 5), .int .u64 (m 6), .int .u64 (m 7), .int .u64 (m 8), .int .u64 (m 9), .complex .f64 A2 B2], .agg #[.int .u32 (o 0), .int .u32 (o 1), .int .u32 (o 2), .int .u32 (o 3), .int .u32 (o 4), .int .u32 (o 5), .int .u32 (o 6), .int .u32 (o 7), .int .u32 (o 8), .int .u32 (o 9)], v3, .agg #[.int .u64 (o 0), .int .u64 (o 1), .int .u64 (o 2), .int .u64 (o 3), .int .u64 (o 4), .int .u64 (o 5), .int .u64 (o 6), .int .u64 (o 7), .int .u64 (o 8), .int .u64 (o 9), .complex .f64 A3 B3], undef, undef, undef, undef, undef, undef, undef, undef, undef, undef, undef, undef, undef, undef, undef, undef, undef, undef, undef, undef, undef, undef, undef, undef, undef, undef, undef, undef, undef, undef, undef, undef, undef, undef, undef, undef, undef, undef, undef, undef, undef, undef, undef, undef, undef, undef, undef, undef, undef, undef, undef, undef, undef, undef, undef, undef, undef, undef, undef, undef, undef, undef, undef, undef, undef, undef, undef, undef, undef, undef, undef, undef, undef, undef, undef, undef, undef, undef, undef, undef, undef, undef, undef, undef, undef, undef, undef, undef, undef, undef, undef, undef, undef, undef, undef, undef, undef], defers := [] } u := by
      intro u g1 hu hw1 he1
      rw [hR]
      refine wpAnyH_ready (rs := [10, 11]) (by kernel_rfl) (by simp) ?_
      refine AllReadyH.cons (i := 10) rfl (fun K hK => ?_) ?_
      · try simp only [List.getElem_toArray, List.getElem_cons_zero, List.getElem_cons_succ]
        go_simp
        refine hK.out _ _ (hu.alloc (.cells #[.int .u64 0, .int .u64 0, .int .u64 0, .int .u64 0, .int .u64 0, .int .u64 0, .int .u64 0, .int .u64 0, .int .u64 0, .int .u64 0, .complex .f64 0 0] 29)) (fun hHeld => ?_)
        clear hK K
        try simp only [Act.put, List.setIfInBounds_toArray, List.set_cons_zero, List.set_cons_succ, List.getElem_toArray, List.getElem_cons_zero, List.getElem_cons_succ]
        have hnx := H3_12 (u.alloc (.cells #[.int .u64 0, .int .u64 0, .int .u64 0, .int .u64 0, .int .u64 0, .int .u64 0, .int .u64 0, .int .u64 0, .int .u64 0, .int .u64 0, .complex .f64 0 0] 29)) g1 u.heap.size (hu.alloc (.cells #[.int .u64 0, .int .u64 0, .int .u64 0, .int .u64 0, .int .u64 0, .int .u64 0, .int .u64 0, .int .u64 0, .int .u64 0, .int .u64 0, .complex .f64 0 0] 29)) hw1 ((Below.block ((Later.refl u).alloc (.cells #[.int .u64 0, .int .u64 0, .int .u64 0, .int .u64 0, .int .u64 0, .int .u64 0, .int .u64 0, .int .u64 0, .int .u64 0, .int .u64 0, .complex .f64 0 0] 29)) _ (lt_of_heap he1)).trans he1) hu.size (heap_alloc_last u (.cells #[.int .u64 0, .int .u64 0, .int .u64 0, .int .u64 0, .int .u64 0, .int .u64 0, .int .u64 0, .int .u64 0, .int .u64 0, .int .u64 0, .complex .f64 0 0] 29)) (Nat.ne_of_lt (lt_of_heap he1))
        rw [hR] at hnx
        exact reL (by kernel_rfl) hnx
      refine AllReadyH.cons (i := 11) rfl (fun K hK => ?_) ?_
      · try simp only [List.getElem_toArray, List.getElem_cons_zero, List.getElem_cons_succ]
        go_simp
        refine hK.out _ _ (hu.alloc (.cells #[.int .u64 0, .int .u64 0, .int .u64 0, .int .u64 0, .int .u64 0, .int .u64 0, .int .u64 0, .int .u64 0, .int .u64 0, .int .u64 0, .complex .f64 0 0] 29)) (fun hHeld => ?_)
        clear hK K
        try simp only [Act.put, List.setIfInBounds_toArray, List.set_cons_zero, List.set_cons_succ, List.getElem_toArray, List.getElem_cons_zero, List.getElem_cons_succ]
        have hnx := H3_13 (u.alloc (.cells #[.int .u64 0, .int .u64 0, .int .u64 0, .int .u64 0, .int .u64 0, .int .u64 0, .int .u64 0, .int .u64 0, .int .u64 0, .int .u64 0, .complex .f64 0 0] 29)) g1 u.heap.size (hu.alloc (.cells #[.int .u64 0, .int .u64 0, .int .u64 0, .int .u64 0, .int .u64 0, .int .u64 0, .int .u64 0, .int .u64 0, .int .u64 0, .int .u64 0, .complex .f64 0 0] 29)) hw1 ((Below.block ((Later.refl u).alloc (.cells #[.int .u64 0, .int .u64 0, .int .u64 0, .int .u64 0, .int .u64 0, .int .u64 0, .int .u64 0, .int .u64 0, .int .u64 0, .int .u64 0, .complex .f64 0 0] 29)) _ (lt_of_heap he1)).trans he1) hu.size (heap_alloc_last u (.cells #[.int .u64 0, .int .u64 0, .int .u64 0, .int .u64 0, .int .u64 0, .int .u64 0, .int .u64 0, .int .u64 0, .int .u64 0, .int .u64 0, .complex .f64 0 0] 29)) (Nat.ne_of_lt (lt_of_heap he1))
        rw [hR] at hnx
        exact reL (by kernel_rfl) hnx
      exact AllReadyH.nil
    have H3_2 : ∀ (u : World) (g2 : Nat), Later W u → W.heap.size ≤ g2 → u.heap[g2]? = some (.cells #[.int .u64 0, .int .u64 0, .int .u64 0, .int .u64 0, .int .u64 0, .int .u64 0, .int .u64 0, .int .u64 0, .int .u64 0, .int .u64 0, .complex .f64 0 0] 29 (0, 0)) → R 5 #[true, true, true, true, true, true, true, true, true, false, true, false, false, false, false] { tmps := #[.agg #[.int .u32 (n 0), .int .u32 (n 1), .int .u32 (n 2), .int .u32 (n 3), .int .u32 (n 4), .int .u32 (n 5), .int .u32 (n 6), .int .u32 (n 7), .int .u32 (n 8), .int .u32 (n 9)], .agg #[.int .u32 (m 0), .int .u32 (m 1), .int .u32 (m 2), .int .u32 (m 3), .int .u32 (m 4), .int .u32 (m 5), .int .u32 (m 6), .int .u32 (m 7), .int .u32 (m 8), .int .u32 (m 9)], .agg #[.int .u32 (o 0), .int .u32 (o 1), .int .u32 (o 2), .int .u32 (o 3), .int .u32 (o 4), .int .u32 (o 5), .int .u32 (o 6), .int .u32 (o 7), .int .u32 (o 8), .int .u32 (o 9)], v1, v2, v3, .int .u8 fl, .pointer (some ⟨T, 0, none⟩), .pointer (some ⟨T + 1, 0, none⟩), .pointer (some ⟨T + 1 + 1, 0, none⟩), undef, undef, undef, undef, .bool false, undef, .pointer (some ⟨g2, 0, none⟩), undef, undef, undef, undef, undef, undef, undef, undef, undef, undef, undef, undef, undef, .agg #[.int .u32 (n 0), .int .u32 (n 1), .int .u32 (n 2), .int .u32 (n 3), .int .u32 (n 4), .int .u32 (n 5), .int .u32 (n 6), .int .u32 (n 7), .int .u32 (n 8), .int .u32 (n 9)], v1, .agg #[.int .u64 (n 0), .int .u64 (n 1), .int .u64 (n 2), .int .u64 (n 3), .int .u64 (n 4), .int .u64 (n 5), .int .u64 (n 6), .int .u64 (n 7), .int .u64 (n 8), .int .u64 (n 9), .complex .f64 A1 B1], .agg #[.int .u32 (m 0), .int .u32 (m 1), .int .u32 (m 2), .int .u32 (m 3), .int .u32 (m 4), .int .u32 (m 5), .int .u32 (m 6), .int .u32 (m 7), .int .u32 (m 8), .int .u32 (m 9)], v2, .agg #[.int .u64 (m 0), .int .u64 (m 1), .int .u64 (m 2), .int .u64 (m 3), .int .u64 (m 4), .int .u64 (m 5), .int .u64 (m 6), .int .u64 (m 7), .int .u64 (m 8), .int .u64 (m 9), .complex .f64 A2 B2], .agg #[.int .u32 (o 0), .int .u32 (o 1), .int .u32 (o 2), .int .u32 (o 3), .int .u32 (o 4), .int .u32 (o 5), .int .u32 (o 6), .int .u32 (o 7), .int .u32 (o 8), .int .u32 (o 9)], v3, .agg #[.int .u64 (o 0), .int .u64 (o 1), .int .u64 (o 2), .int .u64 (o 3), .int .u64 (o 4), .int .u64 (o 5), .int .u64 (o 6), .int .u64 (o 7), .int .u64 (o 8), .int .u64 (o 9), .complex .f64 A3 B3], undef, undef, undef, undef, undef, undef, undef, undef, undef, undef, undef, undef, undef, undef, undef, undef, undef, undef, undef, undef, undef, undef, undef, undef, undef, undef, undef, undef, undef, undef, undef, undef, undef, undef, undef, undef, undef, undef, undef, undef, undef, undef, undef, undef, undef, undef, undef, undef, undef, undef, undef, undef, undef, undef, undef, undef, undef, undef, undef, undef, undef, undef, undef, undef, undef, undef, undef, undef, undef, undef, undef, undef, undef, undef, undef, undef, undef, undef, undef, undef, undef, undef, undef, undef, undef, undef, undef, undef, undef, undef, undef, undef, undef, undef, undef, undef, undef], defers := [] } u := by
      intro u g2 hu hw2 he2
      rw [hR]
      refine wpAnyH_ready (rs := [9, 11]) (by kernel_rfl) (by simp) ?_
      refine AllReadyH.cons (i := 9) rfl (fun K hK => ?_) ?_
      · try simp only [List.getElem_toArray, List.getElem_cons_zero, List.getElem_cons_succ]
        go_simp
        refine hK.out _ _ (hu.alloc (.cells #[.int .u64 0, .int .u64 0, .int .u64 0, .int .u64 0, .int .u64 0, .int .u64 0, .int .u64 0, .int .u64 0, .int .u64 0, .int .u64 0, .complex .f64 0 0] 29)) (fun hHeld => ?_)
        clear hK K
        try simp only [Act.put, List.setIfInBounds_toArray, List.set_cons_zero, List.set_cons_succ, List.getElem_toArray, List.getElem_cons_zero, List.getElem_cons_succ]
        have hnx := H3_12 (u.alloc (.cells #[.int .u64 0, .int .u64 0, .int .u64 0, .int .u64 0, .int .u64 0, .int .u64 0, .int .u64 0, .int .u64 0, .int .u64 0, .int .u64 0, .complex .f64 0 0] 29)) u.heap.size g2 (hu.alloc (.cells #[.int .u64 0, .int .u64 0, .int .u64 0, .int .u64 0, .int .u64 0, .int .u64 0, .int .u64 0, .int .u64 0, .int .u64 0, .int .u64 0, .complex .f64 0 0] 29)) hu.size (heap_alloc_last u (.cells #[.int .u64 0, .int .u64 0, .int .u64 0, .int .u64 0, .int .u64 0, .int .u64 0, .int .u64 0, .int .u64 0, .int .u64 0, .int .u64 0, .complex .f64 0 0] 29)) hw2 ((Below.block ((Later.refl u).alloc (.cells #[.int .u64 0, .int .u64 0, .int .u64 0, .int .u64 0, .int .u64 0, .int .u64 0, .int .u64 0, .int .u64 0, .int .u64 0, .int .u64 0, .complex .f64 0 0] 29)) _ (lt_of_heap he2)).trans he2) (Nat.ne_of_gt (lt_of_heap he2))
        rw [hR] at hnx
        exact reL (by kernel_rfl) hnx
      refine AllReadyH.cons (i := 11) rfl (fun K hK => ?_) ?_
      · try simp only [List.getElem_toArray, List.getElem_cons_zero, List.getElem_cons_succ]
        go_simp
        refine hK.out _ _ (hu.alloc (.cells #[.int .u64 0, .int .u64 0, .int .u64 0, .int .u64 0, .int .u64 0, .int .u64 0, .int .u64 0, .int .u64 0, .int .u64 0, .int .u64 0, .complex .f64 0 0] 29)) (fun hHeld => ?_)
        clear hK K
        try simp only [Act.put, List.setIfInBounds_toArray, List.set_cons_zero, List.set_cons_succ, List.getElem_toArray, List.getElem_cons_zero, List.getElem_cons_succ]
        have hnx := H3_23 (u.alloc (.cells #[.int .u64 0, .int .u64 0, .int .u64 0, .int .u64 0, .int .u64 0, .int .u64 0, .int .u64 0, .int .u64 0, .int .u64 0, .int .u64 0, .complex .f64 0 0] 29)) g2 u.heap.size (hu.alloc (.cells #[.int .u64 0, .int .u64 0, .int .u64 0, .int .u64 0, .int .u64 0, .int .u64 0, .int .u64 0, .int .u64 0, .int .u64 0, .int .u64 0, .complex .f64 0 0] 29)) hw2 ((Below.block ((Later.refl u).alloc (.cells #[.int .u64 0, .int .u64 0, .int .u64 0, .int .u64 0, .int .u64 0, .int .u64 0, .int .u64 0, .int .u64 0, .int .u64 0, .int .u64 0, .complex .f64 0 0] 29)) _ (lt_of_heap he2)).trans he2) hu.size (heap_alloc_last u (.cells #[.int .u64 0, .int .u64 0, .int .u64 0, .int .u64 0, .int .u64 0, .int .u64 0, .int .u64 0, .int .u64 0, .int .u64 0, .int .u64 0, .complex .f64 0 0] 29)) (Nat.ne_of_lt (lt_of_heap he2))
        rw [hR] at hnx
        exact reL (by kernel_rfl) hnx
      exact AllReadyH.nil
    have H3_3 : ∀ (u : World) (g3 : Nat), Later W u → W.heap.size ≤ g3 → u.heap[g3]? = some (.cells #[.int .u64 0, .int .u64 0, .int .u64 0, .int .u64 0, .int .u64 0, .int .u64 0, .int .u64 0, .int .u64 0, .int .u64 0, .int .u64 0, .complex .f64 0 0] 29 (0, 0)) → R 5 #[true, true, true, true, true, true, true, true, true, false, false, true, false, false, false] { tmps := #[.agg #[.int .u32 (n 0), .int .u32 (n 1), .int .u32 (n 2), .int .u32 (n 3), .int .u32 (n 4), .int .u32 (n 5), .int .u32 (n 6), .int .u32 (n 7), .int .u32 (n 8), .int .u32 (n 9)], .agg #[.int .u32 (m 0), .int .u32 (m 1), .int .u32 (m 2), .int .u32 (m 3), .int .u32 (m 4), .int .u32 (m 5), .int .u32 (m 6), .int .u32 (m 7), .int .u32 (m 8), .int .u32 (m 9)], .agg #[.int .u32 (o 0), .int .u32 (o 1), .int .u32 (o 2), .int .u32 (o 3), .int .u32 (o 4), .int .u32 (o 5), .int .u32 (o 6), .int .u32 (o 7), .int .u32 (o 8), .int .u32 (o 9)], v1, v2, v3, .int .u8 fl, .pointer (some ⟨T, 0, none⟩), .pointer (some ⟨T + 1, 0, none⟩), .pointer (some ⟨T + 1 + 1, 0, none⟩), undef, undef, undef, undef, .bool false, undef, undef, .pointer (some ⟨g3, 0, none⟩), undef, undef, undef, undef, undef, undef, undef, undef, undef, undef, undef, undef, .agg #[.int .u32 (n 0), .int .u32 (n 1), .int .u32 (n 2), .int .u32 (n 3), .int .u32 (n 4), .int .u32 (n 5), .int .u32 (n 6), .int .u32 (n 7), .int .u32 (n 8), .int .u32 (n 9)], v1, .agg #[.int .u64 (n 0), .int .u64 (n 1), .int .u64 (n 2), .int .u64 (n 3), .int .u64 (n 4), .int .u64 (n 5), .int .u64 (n 6), .int .u64 (n 7), .int .u64 (n 8), .int .u64 (n 9), .complex .f64 A1 B1], .agg #[.int .u32 (m 0), .int .u32 (m 1), .int .u32 (m 2), .int .u32 (m 3), .int .u32 (m 4), .int .u32 (m 5), .int .u32 (m 6), .int .u32 (m 7), .int .u32 (m 8), .int .u32 (m 9)], v2, .agg #[.int .u64 (m 0), .int .u64 (m 1), .int .u64 (m 2), .int .u64 (m 3), .int .u64 (m 4), .int .u64 (m 5), .int .u64 (m 6), .int .u64 (m 7), .int .u64 (m 8), .int .u64 (m 9), .complex .f64 A2 B2], .agg #[.int .u32 (o 0), .int .u32 (o 1), .int .u32 (o 2), .int .u32 (o 3), .int .u32 (o 4), .int .u32 (o 5), .int .u32 (o 6), .int .u32 (o 7), .int .u32 (o 8), .int .u32 (o 9)], v3, .agg #[.int .u64 (o 0), .int .u64 (o 1), .int .u64 (o 2), .int .u64 (o 3), .int .u64 (o 4), .int .u64 (o 5), .int .u64 (o 6), .int .u64 (o 7), .int .u64 (o 8), .int .u64 (o 9), .complex .f64 A3 B3], undef, undef, undef, undef, undef, undef, undef, undef, undef, undef, undef, undef, undef, undef, undef, undef, undef, undef, undef, undef, undef, undef, undef, undef, undef, undef, undef, undef, undef, undef, undef, undef, undef, undef, undef, undef, undef, undef, undef, undef, undef, undef, undef, undef, undef, undef, undef, undef, undef, undef, undef, undef, undef, undef, undef, undef, undef, undef, undef, undef, undef, undef, undef, undef, undef, undef, undef, undef, undef, undef, undef, undef, undef, undef, undef, undef, undef, undef, undef, undef, undef, undef, undef, undef, undef, undef, undef, undef, undef, undef, undef, undef, undef, undef, undef, undef, undef], defers := [] } u := by
      intro u g3 hu hw3 he3
      rw [hR]
      refine wpAnyH_ready (rs := [9, 10]) (by kernel_rfl) (by simp) ?_
      refine AllReadyH.cons (i := 9) rfl (fun K hK => ?_) ?_
      · try simp only [List.getElem_toArray, List.getElem_cons_zero, List.getElem_cons_succ]
        go_simp
        refine hK.out _ _ (hu.alloc (.cells #[.int .u64 0, .int .u64 0, .int .u64 0, .int .u64 0, .int .u64 0, .int .u64 0, .int .u64 0, .int .u64 0, .int .u64 0, .int .u64 0, .complex .f64 0 0] 29)) (fun hHeld => ?_)
        clear hK K
        try simp only [Act.put, List.setIfInBounds_toArray, List.set_cons_zero, List.set_cons_succ, List.getElem_toArray, List.getElem_cons_zero, List.getElem_cons_succ]
        have hnx := H3_13 (u.alloc (.cells #[.int .u64 0, .int .u64 0, .int .u64 0, .int .u64 0, .int .u64 0, .int .u64 0, .int .u64 0, .int .u64 0, .int .u64 0, .int .u64 0, .complex .f64 0 0] 29)) u.heap.size g3 (hu.alloc (.cells #[.int .u64 0, .int .u64 0, .int .u64 0, .int .u64 0, .int .u64 0, .int .u64 0, .int .u64 0, .int .u64 0, .int .u64 0, .int .u64 0, .complex .f64 0 0] 29)) hu.size (heap_alloc_last u (.cells #[.int .u64 0, .int .u64 0, .int .u64 0, .int .u64 0, .int .u64 0, .int .u64 0, .int .u64 0, .int .u64 0, .int .u64 0, .int .u64 0, .complex .f64 0 0] 29)) hw3 ((Below.block ((Later.refl u).alloc (.cells #[.int .u64 0, .int .u64 0, .int .u64 0, .int .u64 0, .int .u64 0, .int .u64 0, .int .u64 0, .int .u64 0, .int .u64 0, .int .u64 0, .complex .f64 0 0] 29)) _ (lt_of_heap he3)).trans he3) (Nat.ne_of_gt (lt_of_heap he3))
        rw [hR] at hnx
        exact reL (by kernel_rfl) hnx
      refine AllReadyH.cons (i := 10) rfl (fun K hK => ?_) ?_
      · try simp only [List.getElem_toArray, List.getElem_cons_zero, List.getElem_cons_succ]
        go_simp
        refine hK.out _ _ (hu.alloc (.cells #[.int .u64 0, .int .u64 0, .int .u64 0, .int .u64 0, .int .u64 0, .int .u64 0, .int .u64 0, .int .u64 0, .int .u64 0, .int .u64 0, .complex .f64 0 0] 29)) (fun hHeld => ?_)
        clear hK K
        try simp only [Act.put, List.setIfInBounds_toArray, List.set_cons_zero, List.set_cons_succ, List.getElem_toArray, List.getElem_cons_zero, List.getElem_cons_succ]
        have hnx := H3_23 (u.alloc (.cells #[.int .u64 0, .int .u64 0, .int .u64 0, .int .u64 0, .int .u64 0, .int .u64 0, .int .u64 0, .int .u64 0, .int .u64 0, .int .u64 0, .complex .f64 0 0] 29)) u.heap.size g3 (hu.alloc (.cells #[.int .u64 0, .int .u64 0, .int .u64 0, .int .u64 0, .int .u64 0, .int .u64 0, .int .u64 0, .int .u64 0, .int .u64 0, .int .u64 0, .complex .f64 0 0] 29)) hu.size (heap_alloc_last u (.cells #[.int .u64 0, .int .u64 0, .int .u64 0, .int .u64 0, .int .u64 0, .int .u64 0, .int .u64 0, .int .u64 0, .int .u64 0, .int .u64 0, .complex .f64 0 0] 29)) hw3 ((Below.block ((Later.refl u).alloc (.cells #[.int .u64 0, .int .u64 0, .int .u64 0, .int .u64 0, .int .u64 0, .int .u64 0, .int .u64 0, .int .u64 0, .int .u64 0, .int .u64 0, .complex .f64 0 0] 29)) _ (lt_of_heap he3)).trans he3) (Nat.ne_of_gt (lt_of_heap he3))
        rw [hR] at hnx
        exact reL (by kernel_rfl) hnx
      exact AllReadyH.nil
    have H3_ : ∀ (u : World), Later W u → R 6 #[true, true, true, true, true, true, true, true, true, false, false, false, false, false, false] { tmps := #[.agg #[.int .u32 (n 0), .int .u32 (n 1), .int .u32 (n 2), .int .u32 (n 3), .int .u32 (n 4), .int .u32 (n 5), .int .u32 (n 6), .int .u32 (n 7), .int .u32 (n 8), .int .u32 (n 9)], .agg #[.int .u32 (m 0), .int .u32 (m 1), .int .u32 (m 2), .int .u32 (m 3), .int .u32 (m 4), .int .u32 (m 5), .int .u32 (m 6), .int .u32 (m 7), .int .u32 (m 8), .int .u32 (m 9)], .agg #[.int .u32 (o 0), .int .u32 (o 1), .int .u32 (o 2), .int .u32 (o 3), .int .u32 (o 4), .int .u32 (o 5), .int .u32 (o 6), .int .u32 (o 7), .int .u32 (o 8), .int .u32 (o 9)], v1, v2, v3, .int .u8 fl, .pointer (some ⟨T, 0, none⟩), .pointer (some ⟨T + 1, 0, none⟩), .pointer (some ⟨T + 1 + 1, 0, none⟩), undef, undef, undef, undef, .bool false, undef, undef, undef, undef, undef, undef, undef, undef, undef, undef, undef, undef, undef, undef, undef, .agg #[.int .u32 (n 0), .int .u32 (n 1), .int .u32 (n 2), .int .u32 (n 3), .int .u32 (n 4), .int .u32 (n 5), .int .u32 (n 6), .int .u32 (n 7), .int .u32 (n 8), .int .u32 (n 9)], v1, .agg #[.int .u64 (n 0), .int .u64 (n 1), .int .u64 (n 2), .int .u64 (n 3), .int .u64 (n 4), .int .u64 (n 5), .int .u64 (n 6), .int .u64 (n 7), .int .u64 (n 8), .int .u64 (n 9), .complex .f64 A1 B1], .agg #[.int .u32 (m 0), .int .u32 (m 1), .int .u32 (m 2), .int .u32 (m 3), .int .u32 (m 4), .int .u32 (m 5), .int .u32 (m 6), .int .u32 (m 7), .int .u32 (m 8), .int .u32 (m 9)], v2, .agg #[.int .u64 (m 0), .int .u64 (m 1), .int .u64 (m 2), .int .u64 (m 3), .int .u64 (m 4), .int .u64 (m 5), .int .u64 (m 6), .int .u64 (m 7), .int .u64 (m 8), .int .u64 (m 9), .complex .f64 A2 B2], .agg #[.int .u32 (o 0), .int .u32 (o 1), .int .u32 (o 2), .int .u32 (o 3), .int .u32 (o 4), .int .u32 (o 5), .int .u32 (o 6), .int .u32 (o 7), .int .u32 (o 8), .int .u32 (o 9)], v3, .agg #[.int .u64 (o 0), .int .u64 (o 1), .int .u64 (o 2), .int .u64 (o 3), .int .u64 (o 4), .int .u64 (o 5), .int .u64 (o 6), .int .u64 (o 7), .int .u64 (o 8), .int .u64 (o 9), .complex .f64 A3 B3], undef, undef, undef, undef, undef, undef, undef, undef, undef, undef, undef, undef, undef, undef, undef, undef, undef, undef, undef, undef, undef, undef, undef, undef, undef, undef, undef, undef, undef, undef, undef, undef, undef, undef, undef, undef, undef, undef, undef, undef, undef, undef, undef, undef, undef, undef, undef, undef, undef, undef, undef, undef, undef, undef, undef, undef, undef, undef, undef, undef, undef, undef, undef, undef, undef, undef, undef, undef, undef, undef, undef, undef, undef, undef, undef, undef, undef, undef, undef, undef, undef, undef, undef, undef, undef, undef, undef, undef, undef, undef, undef, undef, undef, undef, undef, undef, undef], defers := [] } u := by
      intro u  hu
      rw [hR]
      refine wpAnyH_ready (rs := [9, 10, 11]) (by kernel_rfl) (by simp) ?_
      refine AllReadyH.cons (i := 9) rfl (fun K hK => ?_) ?_
      · try simp only [List.getElem_toArray, List.getElem_cons_zero, List.getElem_cons_succ]
        go_simp
        refine hK.out _ _ (hu.alloc (.cells #[.int .u64 0, .int .u64 0, .int .u64 0, .int .u64 0, .int .u64 0, .int .u64 0, .int .u64 0, .int .u64 0, .int .u64 0, .int .u64 0, .complex .f64 0 0] 29)) (fun hHeld => ?_)
        clear hK K
        try simp only [Act.put, List.setIfInBounds_toArray, List.set_cons_zero, List.set_cons_succ, List.getElem_toArray, List.getElem_cons_zero, List.getElem_cons_succ]
        have hnx := H3_1 (u.alloc (.cells #[.int .u64 0, .int .u64 0, .int .u64 0, .int .u64 0, .int .u64 0, .int .u64 0, .int .u64 0, .int .u64 0, .int .u64 0, .int .u64 0, .complex .f64 0 0] 29)) u.heap.size (hu.alloc (.cells #[.int .u64 0, .int .u64 0, .int .u64 0, .int .u64 0, .int .u64 0, .int .u64 0, .int .u64 0, .int .u64 0, .int .u64 0, .int .u64 0, .complex .f64 0 0] 29)) hu.size (heap_alloc_last u (.cells #[.int .u64 0, .int .u64 0, .int .u64 0, .int .u64 0, .int .u64 0, .int .u64 0, .int .u64 0, .int .u64 0, .int .u64 0, .int .u64 0, .complex .f64 0 0] 29))
        rw [hR] at hnx
        exact reL (by kernel_rfl) hnx
      refine AllReadyH.cons (i := 10) rfl (fun K hK => ?_) ?_
      · try simp only [List.getElem_toArray, List.getElem_cons_zero, List.getElem_cons_succ]
        go_simp
        refine hK.out _ _ (hu.alloc (.cells #[.int .u64 0, .int .u64 0, .int .u64 0, .int .u64 0, .int .u64 0, .int .u64 0, .int .u64 0, .int .u64 0, .int .u64 0, .int .u64 0, .complex .f64 0 0] 29)) (fun hHeld => ?_)
        clear hK K
        try simp only [Act.put, List.setIfInBounds_toArray, List.set_cons_zero, List.set_cons_succ, List.getElem_toArray, List.getElem_cons_zero, List.getElem_cons_succ]
        have hnx := H3_2 (u.alloc (.cells #[.int .u64 0, .int .u64 0, .int .u64 0, .int .u64 0, .int .u64 0, .int .u64 0, .int .u64 0, .int .u64 0, .int .u64 0, .int .u64 0, .complex .f64 0 0] 29)) u.heap.size (hu.alloc (.cells #[.int .u64 0, .int .u64 0, .int .u64 0, .int .u64 0, .int .u64 0, .int .u64 0, .int .u64 0, .int .u64 0, .int .u64 0, .int .u64 0, .complex .f64 0 0] 29)) hu.size (heap_alloc_last u (.cells #[.int .u64 0, .int .u64 0, .int .u64 0, .int .u64 0, .int .u64 0, .int .u64 0, .int .u64 0, .int .u64 0, .int .u64 0, .int .u64 0, .complex .f64 0 0] 29))
        rw [hR] at hnx
        exact reL (by kernel_rfl) hnx
      refine AllReadyH.cons (i := 11) rfl (fun K hK => ?_) ?_
      · try simp only [List.getElem_toArray, List.getElem_cons_zero, List.getElem_cons_succ]
        go_simp
        refine hK.out _ _ (hu.alloc (.cells #[.int .u64 0, .int .u64 0, .int .u64 0, .int .u64 0, .int .u64 0, .int .u64 0, .int .u64 0, .int .u64 0, .int .u64 0, .int .u64 0, .complex .f64 0 0] 29)) (fun hHeld => ?_)
        clear hK K
        try simp only [Act.put, List.setIfInBounds_toArray, List.set_cons_zero, List.set_cons_succ, List.getElem_toArray, List.getElem_cons_zero, List.getElem_cons_succ]
        have hnx := H3_3 (u.alloc (.cells #[.int .u64 0, .int .u64 0, .int .u64 0, .int .u64 0, .int .u64 0, .int .u64 0, .int .u64 0, .int .u64 0, .int .u64 0, .int .u64 0, .complex .f64 0 0] 29)) u.heap.size (hu.alloc (.cells #[.int .u64 0, .int .u64 0, .int .u64 0, .int .u64 0, .int .u64 0, .int .u64 0, .int .u64 0, .int .u64 0, .int .u64 0, .int .u64 0, .complex .f64 0 0] 29)) hu.size (heap_alloc_last u (.cells #[.int .u64 0, .int .u64 0, .int .u64 0, .int .u64 0, .int .u64 0, .int .u64 0, .int .u64 0, .int .u64 0, .int .u64 0, .int .u64 0, .complex .f64 0 0] 29))
        rw [hR] at hnx
        exact reL (by kernel_rfl) hnx
      exact AllReadyH.nil
    have H2_123 : ∀ (u : World) (g1 g2 g3 : Nat), Later W u → W.heap.size ≤ g1 → u.heap[g1]? = some (.cells #[.int .u64 0, .int .u64 0, .int .u64 0, .int .u64 0, .int .u64 0, .int .u64 0, .int .u64 0, .int .u64 0, .int .u64 0, .int .u64 0, .complex .f64 0 0] 29 (0, 0)) → W.heap.size ≤ g2 → u.heap[g2]? = some (.cells #[.int .u64 0, .int .u64 0, .int .u64 0, .int .u64 0, .int .u64 0, .int .u64 0, .int .u64 0, .int .u64 0, .int .u64 0, .int .u64 0, .complex .f64 0 0] 29 (0, 0)) → W.heap.size ≤ g3 → u.heap[g3]? = some (.cells #[.int .u64 0, .int .u64 0, .int .u64 0, .int .u64 0, .int .u64 0, .int .u64 0, .int .u64 0, .int .u64 0, .int .u64 0, .int .u64 0, .complex .f64 0 0] 29 (0, 0)) → g1 ≠ g2 → g1 ≠ g3 → g2 ≠ g3 → R 4 #[true, true, true, true, true, true, true, true, false, true, true, true, false, false, false] { tmps := #[.agg #[.int .u32 (n 0), .int .u32 (n 1), .int .u32 (n 2), .int .u32 (n 3), .int .u32 (n 4), .int .u32 (n 5), .int .u32 (n 6), .int .u32 (n 7), .int .u32 (n 8), .int .u32 (n 9)], .agg #[.int .u32 (m 0), .int .u32 (m 1), .int .u32 (m 2), .int .u32 (m 3), .int .u32 (m 4), .int .u32 (m 5), .int .u32 (m 6), .int .u32 (m 7), .int .u32 (m 8), .int .u32 (m 9)], .agg #[.int .u32 (o 0), .int .u32 (o 1), .int .u32 (o 2), .int .u32 (o 3), .int .u32 (o 4), .int .u32 (o 5), .int .u32 (o 6), .int .u32 (o 7), .int .u32 (o 8), .int .u32 (o 9)], v1, v2, v3, .int .u8 fl, .pointer (some ⟨T, 0, none⟩), .pointer (some ⟨T + 1, 0, none⟩), .pointer (some ⟨T + 1 + 1, 0, none⟩), undef, undef, undef, undef, .bool false, .pointer (some ⟨g1, 0, none⟩), .pointer (some ⟨g2, 0, none⟩), .pointer (some ⟨g3, 0, none⟩), undef, undef, undef, undef, undef, undef, undef, undef, undef, undef, undef, undef, .agg #[.int .u32 (n 0), .int .u32 (n 1), .int .u32 (n 2), .int .u32 (n 3), .int .u32 (n 4), .int .u32 (n 5), .int .u32 (n 6), .int .u32 (n 7), .int .u32 (n 8), .int .u32 (n 9)], v1, .agg #[.int .u64 (n 0), .int .u64 (n 1), .int .u64 (n 2), .int .u64 (n 3), .int .u64 (n 4), .int .u64 (n 5), .int .u64 (n 6), .int .u64 (n 7), .int .u64 (n 8), .int .u64 (n 9), .complex .f64 A1 B1], .agg #[.int .u32 (m 0), .int .u32 (m 1), .int .u32 (m 2), .int .u32 (m 3), .int .u32 (m 4), .int .u32 (m 5), .int .u32 (m 6), .int .u32 (m 7), .int .u32 (m 8), .int .u32 (m 9)], v2, .agg #[.int .u64 (m 0), .int .u64 (m 1), .int .u64 (m 2), .int .u64 (m 3), .int .u64 (m 4), .int .u64 (m 5), .int .u64 (m 6), .int .u64 (m 7), .int .u64 (m 8), .int .u64 (m 9), .complex .f64 A2 B2], .agg #[.int .u32 (o 0), .int .u32 (o 1), .int .u32 (o 2), .int .u32 (o 3), .int .u32 (o 4), .int .u32 (o 5), .int .u32 (o 6), .int .u32 (o 7), .int .u32 (o 8), .int .u32 (o 9)], v3, undef, undef, undef, undef, undef, undef, undef, undef, undef, undef, undef, undef, undef, undef, undef, undef, undef, undef, undef, undef, undef, undef, undef, undef, undef, undef, undef, undef, undef, undef, undef, undef, undef, undef, undef, undef, undef, undef, undef, undef, undef, undef, undef, undef, undef, undef, undef, undef, undef, undef, undef, undef, undef, undef, undef, undef, undef, undef, undef, undef, undef, undef, undef, undef, undef, undef, undef, undef, undef, undef, undef, undef, undef, undef, undef, undef, undef, undef, undef, undef, undef, undef, undef, undef, undef, undef, undef, undef, undef, undef, undef, undef, undef, undef, undef, undef, undef, undef], defers := [] } u := by
      intro u g1 g2 g3 hu hw1 he1 hw2 he2 hw3 he3 hn12 hn13 hn23
      rw [hR]
      refine wpAnyH_ready (rs := [8]) (by kernel_rfl) (by simp) ?_
      refine AllReadyH.cons (i := 8) rfl (fun K hK => ?_) ?_
      · try simp only [List.getElem_toArray, List.getElem_cons_zero, List.getElem_cons_succ]
        rw [if_pos (by rfl)]
        go_simp
        refine (HV3.out u hu).mono ?_
        rintro e u1 ⟨rfl, hq1⟩
        have HL1 := hu.trans hq1
        try simp only []
        refine hK.out _ _ HL1 (fun hHeld => ?_)
        clear hK K
        try simp only [Act.put, List.setIfInBounds_toArray, List.set_cons_zero, List.set_cons_succ, List.getElem_toArray, List.getElem_cons_zero, List.getElem_cons_succ]
        have hnx := H3_123 u1 g1 g2 g3 HL1 hw1 ((Below.block hq1 _ (lt_of_heap he1)).trans he1) hw2 ((Below.block hq1 _ (lt_of_heap he2)).trans he2) hw3 ((Below.block hq1 _ (lt_of_heap he3)).trans he3) hn12 hn13 hn23
        rw [hR] at hnx
        exact reL (by kernel_rfl) hnx
      exact AllReadyH.nil
    have H2_12 : ∀ (u : World) (g1 g2 : Nat), Later W u → W.heap.size ≤ g1 → u.heap[g1]? = some (.cells #[.int .u64 0, .int .u64 0, .int .u64 0, .int .u64 0, .int .u64 0, .int .u64 0, .int .u64 0, .int .u64 0, .int .u64 0, .int .u64 0, .complex .f64 0 0] 29 (0, 0)) → W.heap.size ≤ g2 → u.heap[g2]? = some (.cells #[.int .u64 0, .int .u64 0, .int .u64 0, .int .u64 0, .int .u64 0, .int .u64 0, .int .u64 0, .int .u64 0, .int .u64 0, .int .u64 0, .complex .f64 0 0] 29 (0, 0)) → g1 ≠ g2 → R 5 #[true, true, true, true, true, true, true, true, false, true, true, false, false, false, false] { tmps := #[.agg #[.int .u32 (n 0), .int .u32 (n 1), .int .u32 (n 2), .int .u32 (n 3), .int .u32 (n 4), .int .u32 (n 5), .int .u32 (n 6), .int .u32 (n 7), .int .u32 (n 8), .int .u32 (n 9)], .agg #[.int .u32 (m 0), .int .u32 (m 1), .int .u32 (m 2), .int .u32 (m 3), .int .u32 (m 4), .int .u32 (m 5), .int .u32 (m 6), .int .u32 (m 7), .int .u32 (m 8), .int .u32 (m 9)], .agg #[.int .u32 (o 0), .int .u32 (o 1), .int .u32 (o 2), .int .u32 (o 3), .int .u32 (o 4), .int .u32 (o 5), .int .u32 (o 6), .int .u32 (o 7), .int .u32 (o 8), .int .u32 (o 9)], v1, v2, v3, .int .u8 fl, .pointer (some ⟨T, 0, none⟩), .pointer (some ⟨T + 1, 0, none⟩), .pointer (some ⟨T + 1 + 1, 0, none⟩), undef, undef, undef, undef, .bool false, .pointer (some ⟨g1, 0, none⟩), .pointer (some ⟨g2, 0, none⟩), undef, undef, undef, undef, undef, undef, undef, undef, undef, undef, undef, undef, undef, .agg #[.int .u32 (n 0), .int .u32 (n 1), .int .u32 (n 2), .int .u32 (n 3), .int .u32 (n 4), .int .u32 (n 5), .int .u32 (n 6), .int .u32 (n 7), .int .u32 (n 8), .int .u32 (n 9)], v1, .agg #[.int .u64 (n 0), .int .u64 (n 1), .int .u64 (n 2), .int .u64 (n 3), .int .u64 (n 4), .int .u64 (n 5), .int .u64 (n 6), .int .u64 (n 7), .int .u64 (n 8), .int .u64 (n 9), .complex .f64 A1 B1], .agg #[.int .u32 (m 0), .int .u32 (m 1), .int .u32 (m 2), .int .u32 (m 3), .int .u32 (m 4), .int .u32 (m 5), .int .u32 (m 6), .int .u32 (m 7), .int .u32 (m 8), .int .u32 (m 9)], v2, .agg #[.int .u64 (m 0), .int .u64 (m 1), .int .u64 (m 2), .int .u64 (m 3), .int .u64 (m 4), .int .u64 (m 5), .int .u64 (m 6), .int .u64 (m 7), .int .u64 (m 8), .int .u64 (m 9), .complex .f64 A2 B2], .agg #[.int .u32 (o 0), .int .u32 (o 1), .int .u32 (o 2), .int .u32 (o 3), .int .u32 (o 4), .int .u32 (o 5), .int .u32 (o 6), .int .u32 (o 7), .int .u32 (o 8), .int .u32 (o 9)], v3, undef, undef, undef, undef, undef, undef, undef, undef, undef, undef, undef, undef, undef, undef, undef, undef, undef, undef, undef, undef, undef, undef, undef, undef, undef, undef, undef, undef, undef, undef, undef, undef, undef, undef, undef, undef, undef, undef, undef, undef, undef, undef, undef, undef, undef, undef, undef, undef, undef, undef, undef, undef, undef, undef, undef, undef, undef, undef, undef, undef, undef, undef, undef, undef, undef, undef, undef, undef, undef, undef, undef, undef, undef, undef, undef, undef, undef, undef, undef, undef, undef, undef, undef, undef, undef, undef, undef, undef, undef, undef, undef, undef, undef, undef, undef, undef, undef, undef], defers := [] } u := by
      intro u g1 g2 hu hw1 he1 hw2 he2 hn12
      rw [hR]
      refine wpAnyH_ready (rs := [8, 11]) (by kernel_rfl) (by simp) ?_
      refine AllReadyH.cons (i := 8) rfl (fun K hK => ?_) ?_
      · try simp only [List.getElem_toArray, List.getElem_cons_zero, List.getElem_cons_succ]
        rw [if_pos (by rfl)]
        go_simp
        refine (HV3.out u hu).mono ?_
        rintro e u1 ⟨rfl, hq1⟩
        have HL1 := hu.trans hq1
        try simp only []
        refine hK.out _ _ HL1 (fun hHeld => ?_)
        clear hK K
        try simp only [Act.put, List.setIfInBounds_toArray, List.set_cons_zero, List.set_cons_succ, List.getElem_toArray, List.getElem_cons_zero, List.getElem_cons_succ]
        have hnx := H3_12 u1 g1 g2 HL1 hw1 ((Below.block hq1 _ (lt_of_heap he1)).trans he1) hw2 ((Below.block hq1 _ (lt_of_heap he2)).trans he2) hn12
        rw [hR] at hnx
        exact reL (by kernel_rfl) hnx
      refine AllReadyH.cons (i := 11) rfl (fun K hK => ?_) ?_
      · try simp only [List.getElem_toArray, List.getElem_cons_zero, List.getElem_cons_succ]
        go_simp
        refine hK.out _ _ (hu.alloc (.cells #[.int .u64 0, .int .u64 0, .int .u64 0, .int .u64 0, .int .u64 0, .int .u64 0, .int .u64 0, .int .u64 0, .int .u64 0, .int .u64 0, .complex .f64 0 0] 29)) (fun hHeld => ?_)
        clear hK K
        try simp only [Act.put, List.setIfInBounds_toArray, List.set_cons_zero, List.set_cons_succ, List.getElem_toArray, List.getElem_cons_zero, List.getElem_cons_succ]
        have hnx := H2_123 (u.alloc (.cells #[.int .u64 0, .int .u64 0, .int .u64 0, .int .u64 0, .int .u64 0, .int .u64 0, .int .u64 0, .int .u64 0, .int .u64 0, .int .u64 0, .complex .f64 0 0] 29)) g1 g2 u.heap.size (hu.alloc (.cells #[.int .u64 0, .int .u64 0, .int .u64 0, .int .u64 0, .int .u64 0, .int .u64 0, .int .u64 0, .int .u64 0, .int .u64 0, .int .u64 0, .complex .f64 0 0] 29)) hw1 ((Below.block ((Later.refl u).alloc (.cells #[.int .u64 0, .int .u64 0, .int .u64 0, .int .u64 0, .int .u64 0, .int .u64 0, .int .u64 0, .int .u64 0, .int .u64 0, .int .u64 0, .complex .f64 0 0] 29)) _ (lt_of_heap he1)).trans he1) hw2 ((Below.block ((Later.refl u).alloc (.cells #[.int .u64 0, .int .u64 0, .int .u64 0, .int .u64 0, .int .u64 0, .int .u64 0, .int .u64 0, .int .u64 0, .int .u64 0, .int .u64 0, .complex .f64 0 0] 29)) _ (lt_of_heap he2)).trans he2) hu.size (heap_alloc_last u (.cells #[.int .u64 0, .int .u64 0, .int .u64 0, .int .u64 0, .int .u64 0, .int .u64 0, .int .u64 0, .int .u64 0, .int .u64 0, .int .u64 0, .complex .f64 0 0] 29)) hn12 (Nat.ne_of_lt (lt_of_heap he1)) (Nat.ne_of_lt (lt_of_heap he2))
        rw [hR] at hnx
        exact reL (by kernel_rfl) hnx
      exact AllReadyH.nil
    have H2_13 : ∀ (u : World) (g1 g3 : Nat), Later W u → W.heap.size ≤ g1 → u.heap[g1]? = some (.cells #[.int .u64 0, .int .u64 0, .int .u64 0, .int .u64 0, .int .u64 0, .int .u64 0, .int .u64 0, .int .u64 0, .int .u64 0, .int .u64 0, .complex .f64 0 0] 29 (0, 0)) → W.heap.size ≤ g3 → u.heap[g3]? = some (.cells #[.int .u64 0, .int .u64 0, .int .u64 0, .int .u64 0, .int .u64 0, .int .u64 0, .int .u64 0, .int .u64 0, .int .u64 0, .int .u64 0, .complex .f64 0 0] 29 (0, 0)) → g1 ≠ g3 → R 5 #[true, true, true, true, true, true, true, true, false, true, false, true, false, false, false] { tmps := #[.agg #[.int .u32 (n 0), .int .u32 (n 1), .int .u32 (n 2), .int .u32 (n 3), .int .u32 (n 4), .int .u32 (n 5), .int .u32 (n 6), .int .u32 (n 7), .int .u32 (n 8), .int .u32 (n 9)], .agg #[.int .u32 (m 0), .int .u32 (m 1), .int .u32 (m 2), .int .u32 (m 3), .int .u32 (m 4), .int .u32 (m 5), .int .u32 (m 6), .int .u32 (m 7), .int .u32 (m 8), .int .u32 (m 9)], .agg #[.int .u32 (o 0), .int .u32 (o 1), .int .u32 (o 2), .int .u32 (o 3), .int .u32 (o 4), .int .u32 (o 5), .int .u32 (o 6), .int .u32 (o 7), .int .u32 (o 8), .int .u32 (o 9)], v1, v2, v3, .int .u8 fl, .pointer (some ⟨T, 0, none⟩), .pointer (some ⟨T + 1, 0, none⟩), .pointer (some ⟨T + 1 + 1, 0, none⟩), undef, undef, undef, undef, .bool false, .pointer (some ⟨g1, 0, none⟩), undef, .pointer (some ⟨g3, 0, none⟩), undef, undef, undef, undef, undef, undef, undef, undef, undef, undef, undef, undef, .agg #[.int .u32 (n 0), .int .u32 (n 1), .int .u32 (n 2), .int .u32 (n 3), .int .u32 (n 4), .int .u32 (n 5), .int .u32 (n 6), .int .u32 (n 7), .int .u32 (n 8), .int .u32 (n 9)], v1, .agg #[.int .u64 (n 0), .int .u64 (n 1), .int .u64 (n 2), .int .u64 (n 3), .int .u64 (n 4), .int .u64 (n 5), .int .u64 (n 6), .int .u64 (n 7), .int .u64 (n 8), .int .u64 (n 9), .complex .f64 A1 B1], .agg #[.int .u32 (m 0), .int .u32 (m 1), .int .u32 (m 2), .int .u32 (m 3), .int .u32 (m 4), .int .u32 (m 5), .int .u32 (m 6), .int .u32 (m 7), .int .u32 (m 8), .int .u32 (m 9)], v2, .agg #[.int .u64 (m 0), .int .u64 (m 1), .int .u64 (m 2), .int .u64 (m 3), .int .u64 (m 4), .int .u64 (m 5), .int .u64 (m 6), .int .u64 (m 7), .int .u64 (m 8), .int .u64 (m 9), .complex .f64 A2 B2], .agg #[.int .u32 (o 0), .int .u32 (o 1), .int .u32 (o 2), .int .u32 (o 3), .int .u32 (o 4), .int .u32 (o 5), .int .u32 (o 6), .int .u32 (o 7), .int .u32 (o 8), .int .u32 (o 9)], v3, undef, undef, undef, undef, undef, undef, undef, undef, undef, undef, undef, undef, undef, undef, undef, undef, undef, undef, undef, undef, undef, undef, undef, undef, undef, undef, undef, undef, undef, undef, undef, undef, undef, undef, undef, undef, undef, undef, undef, undef, undef, undef, undef, undef, undef, undef, undef, undef, undef, undef, undef, undef, undef, undef, undef, undef, undef, undef, undef, undef, undef, undef, undef, undef, undef, undef, undef, undef, undef, undef, undef, undef, undef, undef, undef, undef, undef, undef, undef, undef, undef, undef, undef, undef, undef, undef, undef, undef, undef, undef, undef, undef, undef, undef, undef, undef, undef, undef], defers := [] } u := by
      intro u g1 g3 hu hw1 he1 hw3 he3 hn13
      rw [hR]
      refine wpAnyH_ready (rs := [8, 10]) (by kernel_rfl) (by simp) ?_
      refine AllReadyH.cons (i := 8) rfl (fun K hK => ?_) ?_
      · try simp only [List.getElem_toArray, List.getElem_cons_zero, List.getElem_cons_succ]
        rw [if_pos (by rfl)]
        go_simp
        refine (HV3.out u hu).mono ?_
        rintro e u1 ⟨rfl, hq1⟩
        have HL1 := hu.trans hq1
        try simp only []
        refine hK.out _ _ HL1 (fun hHeld => ?_)
        clear hK K
        try simp only [Act.put, List.setIfInBounds_toArray, List.set_cons_zero, List.set_cons_succ, List.getElem_toArray, List.getElem_cons_zero, List.getElem_cons_succ]
        have hnx := H3_13 u1 g1 g3 HL1 hw1 ((Below.block hq1 _ (lt_of_heap he1)).trans he1) hw3 ((Below.block hq1 _ (lt_of_heap he3)).trans he3) hn13
        rw [hR] at hnx
        exact reL (by kernel_rfl) hnx
      refine AllReadyH.cons (i := 10) rfl (fun K hK => ?_) ?_
      · try simp only [List.getElem_toArray, List.getElem_cons_zero, List.getElem_cons_succ]
        go_simp
        refine hK.out _ _ (hu.alloc (.cells #[.int .u64 0, .int .u64 0, .int .u64 0, .int .u64 0, .int .u64 0, .int .u64 0, .int .u64 0, .int .u64 0, .int .u64 0, .int .u64 0, .complex .f64 0 0] 29)) (fun hHeld => ?_)
        clear hK K
        try simp only [Act.put, List.setIfInBounds_toArray, List.set_cons_zero, List.set_cons_succ, List.getElem_toArray, List.getElem_cons_zero, List.getElem_cons_succ]
        have hnx := H2_123 (u.alloc (.cells #[.int .u64 0, .int .u64 0, .int .u64 0, .int .u64 0, .int .u64 0, .int .u64 0, .int .u64 0, .int .u64 0, .int .u64 0, .int .u64 0, .complex .f64 0 0] 29)) g1 u.heap.size g3 (hu.alloc (.cells #[.int .u64 0, .int .u64 0, .int .u64 0, .int .u64 0, .int .u64 0, .int .u64 0, .int .u64 0, .int .u64 0, .int .u64 0, .int .u64 0, .complex .f64 0 0] 29)) hw1 ((Below.block ((Later.refl u).alloc (.cells #[.int .u64 0, .int .u64 0, .int .u64 0, .int .u64 0, .int .u64 0, .int .u64 0, .int .u64 0, .int .u64 0, .int .u64 0, .int .u64 0, .complex .f64 0 0] 29)) _ (lt_of_heap he1)).trans he1) hu.size (heap_alloc_last u (.cells #[.int .u64 0, .int .u64 0, .int .u64 0, .int .u64 0, .int .u64 0, .int .u64 0, .int .u64 0, .int .u64 0, .int .u64 0, .int .u64 0, .complex .f64 0 0] 29)) hw3 ((Below.block ((Later.refl u).alloc (.cells #[.int .u64 0, .int .u64 0, .int .u64 0, .int .u64 0, .int .u64 0, .int .u64 0, .int .u64 0, .int .u64 0, .int .u64 0, .int .u64 0, .complex .f64 0 0] 29)) _ (lt_of_heap he3)).trans he3) (Nat.ne_of_lt (lt_of_heap he1)) hn13 (Nat.ne_of_gt (lt_of_heap he3))
        rw [hR] at hnx
        exact reL (by kernel_rfl) hnx
      exact AllReadyH.nil
    have H2_23 : ∀ (u : World) (g2 g3 : Nat), Later W u → W.heap.size ≤ g2 → u.heap[g2]? = some (.cells #[.int .u64 0, .int .u64 0, .int .u64 0, .int .u64 0, .int .u64 0, .int .u64 0, .int .u64 0, .int .u64 0, .int .u64 0, .int .u64 0, .complex .f64 0 0] 29 (0, 0)) → W.heap.size ≤ g3 → u.heap[g3]? = some (.cells #[.int .u64 0, .int .u64 0, .int .u64 0, .int .u64 0, .int .u64 0, .int .u64 0, .int .u64 0, .int .u64 0, .int .u64 0, .int .u64 0, .complex .f64 0 0] 29 (0, 0)) → g2 ≠ g3 → R 5 #[true, true, true, true, true, true, true, true, false, false, true, true, false, false, false] { tmps := #[.agg #[.int .u32 (n 0), .int .u32 (n 1), .int .u32 (n 2), .int .u32 (n 3), .int .u32 (n 4), .int .u32 (n 5), .int .u32 (n 6), .int .u32 (n 7), .int .u32 (n 8), .int .u32 (n 9)], .agg #[.int .u32 (m 0), .int .u32 (m 1), .int .u32 (m 2), .int .u32 (m 3), .int .u32 (m 4), .int .u32 (m 5), .int .u32 (m 6), .int .u32 (m 7), .int .u32 (m 8), .int .u32 (m 9)], .agg #[.int .u32 (o 0), .int .u32 (o 1), .int .u32 (o 2), .int .u32 (o 3), .int .u32 (o 4), .int .u32 (o 5), .int .u32 (o 6), .int .u32 (o 7), .int .u32 (o 8), .int .u32 (o 9)], v1, v2, v3, .int .u8 fl, .pointer (some ⟨T, 0, none⟩), .pointer (some ⟨T + 1, 0, none⟩), .pointer (some ⟨T + 1 + 1, 0, none⟩), undef, undef, undef, undef, .bool false, undef, .pointer (some ⟨g2, 0, none⟩), .pointer (some ⟨g3, 0, none⟩), undef, undef, undef, undef, undef, undef, undef, undef, undef, undef, undef, undef, .agg #[.int .u32 (n 0), .int .u32 (n 1), .int .u32 (n 2), .int .u32 (n 3), .int .u32 (n 4), .int .u32 (n 5), .int .u32 (n 6), .int .u32 (n 7), .int .u32 (n 8), .int .u32 (n 9)], v1, .agg #[.int .u64 (n 0), .int .u64 (n 1), .int .u64 (n 2), .int .u64 (n 3), .int .u64 (n 4), .int .u64 (n 5), .int .u64 (n 6), .int .u64 (n 7), .int .u64 (n 8), .int .u64 (n 9), .complex .f64 A1 B1], .agg #[.int .u32 (m 0), .int .u32 (m 1), .int .u32 (m 2), .int .u32 (m 3), .int .u32 (m 4), .int .u32 (m 5), .int .u32 (m 6), .int .u32 (m 7), .int .u32 (m 8), .int .u32 (m 9)], v2, .agg #[.int .u64 (m 0), .int .u64 (m 1), .int .u64 (m 2), .int .u64 (m 3), .int .u64 (m 4), .int .u64 (m 5), .int .u64 (m 6), .int .u64 (m 7), .int .u64 (m 8), .int .u64 (m 9), .complex .f64 A2 B2], .agg #[.int .u32 (o 0), .int .u32 (o 1), .int .u32 (o 2), .int .u32 (o 3), .int .u32 (o 4), .int .u32 (o 5), .int .u32 (o 6), .int .u32 (o 7), .int .u32 (o 8), .int .u32 (o 9)], v3, undef, undef, undef, undef, undef, undef, undef, undef, undef, undef, undef, undef, undef, undef, undef, undef, undef, undef, undef, undef, undef, undef, undef, undef, undef, undef, undef, undef, undef, undef, undef, undef, undef, undef, undef, undef, undef, undef, undef, undef, undef, undef, undef, undef, undef, undef, undef, undef, undef, undef, undef, undef, undef, undef, undef, undef, undef, undef, undef, undef, undef, undef, undef, undef, undef, undef, undef, undef, undef, undef, undef, undef, undef, undef, undef, undef, undef, undef, undef, undef, undef, undef, undef, undef, undef, undef, undef, undef, undef, undef, undef, undef, undef, undef, undef, undef, undef, undef], defers := [] } u := by
      intro u g2 g3 hu hw2 he2 hw3 he3 hn23
      rw [hR]
      refine wpAnyH_ready (rs := [8, 9]) (by kernel_rfl) (by simp) ?_
      refine AllReadyH.cons (i := 8) rfl (fun K hK => ?_) ?_
      · try simp only [List.getElem_toArray, List.getElem_cons_zero, List.getElem_cons_succ]
        rw [if_pos (by rfl)]
        go_simp
        refine (HV3.out u hu).mono ?_
        rintro e u1 ⟨rfl, hq1⟩
        have HL1 := hu.trans hq1
        try simp only []
        refine hK.out _ _ HL1 (fun hHeld => ?_)
        clear hK K
        try simp only [Act.put, List.setIfInBounds_toArray, List.set_cons_zero, List.set_cons_succ, List.getElem_toArray, List.getElem_cons_zero, List.getElem_cons_succ]
        have hnx := H3_23 u1 g2 g3 HL1 hw2 ((Below.block hq1 _ (lt_of_heap he2)).trans he2) hw3 ((Below.block hq1 _ (lt_of_heap he3)).trans he3) hn23
        rw [hR] at hnx
        exact reL (by kernel_rfl) hnx
      refine AllReadyH.cons (i := 9) rfl (fun K hK => ?_) ?_
      · try simp only [List.getElem_toArray, List.getElem_cons_zero, List.getElem_cons_succ]
        go_simp
        refine hK.out _ _ (hu.alloc (.cells #[.int .u64 0, .int .u64 0, .int .u64 0, .int .u64 0, .int .u64 0, .int .u64 0, .int .u64 0, .int .u64 0, .int .u64 0, .int .u64 0, .complex .f64 0 0] 29)) (fun hHeld => ?_)
        clear hK K
        try simp only [Act.put, List.setIfInBounds_toArray, List.set_cons_zero, List.set_cons_succ, List.getElem_toArray, List.getElem_cons_zero, List.getElem_cons_succ]
        have hnx := H2_123 (u.alloc (.cells #[.int .u64 0, .int .u64 0, .int .u64 0, .int .u64 0, .int .u64 0, .int .u64 0, .int .u64 0, .int .u64 0, .int .u64 0, .int .u64 0, .complex .f64 0 0] 29)) u.heap.size g2 g3 (hu.alloc (.cells #[.int .u64 0, .int .u64 0, .int .u64 0, .int .u64 0, .int .u64 0, .int .u64 0, .int .u64 0, .int .u64 0, .int .u64 0, .int .u64 0, .complex .f64 0 0] 29)) hu.size (heap_alloc_last u (.cells #[.int .u64 0, .int .u64 0, .int .u64 0, .int .u64 0, .int .u64 0, .int .u64 0, .int .u64 0, .int .u64 0, .int .u64 0, .int .u64 0, .complex .f64 0 0] 29)) hw2 ((Below.block ((Later.refl u).alloc (.cells #[.int .u64 0, .int .u64 0, .int .u64 0, .int .u64 0, .int .u64 0, .int .u64 0, .int .u64 0, .int .u64 0, .int .u64 0, .int .u64 0, .complex .f64 0 0] 29)) _ (lt_of_heap he2)).trans he2) hw3 ((Below.block ((Later.refl u).alloc (.cells #[.int .u64 0, .int .u64 0, .int .u64 0, .int .u64 0, .int .u64 0, .int .u64 0, .int .u64 0, .int .u64 0, .int .u64 0, .int .u64 0, .complex .f64 0 0] 29)) _ (lt_of_heap he3)).trans he3) (Nat.ne_of_gt (lt_of_heap he2)) (Nat.ne_of_gt (lt_of_heap he3)) hn23
        rw [hR] at hnx
        exact reL (by kernel_rfl) hnx
      exact AllReadyH.nil
    have H2_1 : ∀ (u : World) (g1 : Nat), Later W u → W.heap.size ≤ g1 → u.heap[g1]? = some (.cells #[.int .u64 0, .int .u64 0, .int .u64 0, .int .u64 0, .int .u64 0, .int .u64 0, .int .u64 0, .int .u64 0, .int .u64 0, .int .u64 0, .complex .f64 0 0] 29 (0, 0)) → R 6 #[true, true, true, true, true, true, true, true, false, true, false, false, false, false, false] { tmps := #[.agg #[.int .u32 (n 0), .int .u32 (n 1), .int .u32 (n 2), .int .u32 (n 3), .int .u32 (n 4), .int .u32 (n 5), .int .u32 (n 6), .int .u32 (n 7), .int .u32 (n 8), .int .u32 (n 9)], .agg #[.int .u32 (m 0), .int .u32 (m 1), .int .u32 (m 2), .int .u32 (m 3), .int .u32 (m 4), .int .u32 (m 5), .int .u32 (m 6), .int .u32 (m 7), .int .u32 (m 8), .int .u32 (m 9)], .agg #[.int .u32 (o 0), .int .u32 (o 1), .int .u32 (o 2), .int .u32 (o 3), .int .u32 (o 4), .int .u32 (o 5), .int .u32 (o 6), .int .u32 (o 7), .int .u32 (o 8), .int .u32 (o 9)], v1, v2, v3, .int .u8 fl, .pointer (some ⟨T, 0, none⟩), .pointer (some ⟨T + 1, 0, none⟩), .pointer (some ⟨T + 1 + 1, 0, none⟩), undef, undef, undef, undef, .bool false, .pointer (some ⟨g1, 0, none⟩), undef, undef, undef, undef, undef, undef, undef, undef, undef, undef, undef, undef, undef, undef, .agg #[.int .u32 (n 0), .int .u32 (n 1), .int .u32 (n 2), .int .u32 (n 3), .int .u32 (n 4), .int .u32 (n 5), .int .u32 (n 6), .int .u32 (n 7), .int .u32 (n 8), .int .u32 (n 9)], v1, .agg #[.int .u64 (n 0), .int .u64 (n 1), .int .u64 (n 2), .int .u64 (n 3), .int .u64 (n 4), .int .u64 (n 5), .int .u64 (n 6), .int .u64 (n 7), .int .u64 (n 8), .int .u64 (n 9), .complex .f64 A1 B1], .agg #[.int .u32 (m 0), .int .u32 (m 1), .int .u32 (m 2), .int .u32 (m 3), .int .u32 (m 4), .int .u32 (m 5), .int .u32 (m 6), .int .u32 (m 7), .int .u32 (m 8), .int .u32 (m 9)], v2, .agg #[.int .u64 (m 0), .int .u64 (m 1), .int .u64 (m 2), .int .u64 (m 3), .int .u64 (m 4), .int .u64 (m 5), .int .u64 (m 6), .int .u64 (m 7), .int .u64 (m 8), .int .u64 (m 9), .complex .f64 A2 B2], .agg #[.int .u32 (o 0), .int .u32 (o 1), .int .u32 (o 2), .int .u32 (o 3), .int .u32 (o 4), .int .u32 (o 5), .int .u32 (o 6), .int .u32 (o 7), .int .u32 (o 8), .int .u32 (o 9)], v3, undef, undef, undef, undef, undef, undef, undef, undef, undef, undef, undef, undef, undef, undef, undef, undef, undef, undef, undef, undef, undef, undef, undef, undef, undef, undef, undef, undef, undef, undef, undef, undef, undef, undef, undef, undef, undef, undef, undef, undef, undef, undef, undef, undef, undef, undef, undef, undef, undef, undef, undef, undef, undef, undef, undef, undef, undef, undef, undef, undef, undef, undef, undef, undef, undef, undef, undef, undef, undef, undef, undef, undef, undef, undef, undef, undef, undef, undef, undef, undef, undef, undef, undef, undef, undef, undef, undef, undef, undef, undef, undef, undef, undef, undef, undef, undef, undef, undef], defers := [] } u := by
      intro u g1 hu hw1 he1
      rw [hR]
      refine wpAnyH_ready (rs := [8, 10, 11]) (by kernel_rfl) (by simp) ?_
      refine AllReadyH.cons (i := 8) rfl (fun K hK => ?_) ?_
      · try simp only [List.getElem_toArray, List.getElem_cons_zero, List.getElem_cons_succ]
        rw [if_pos (by rfl)]
        go_simp
        refine (HV3.out u hu).mono ?_
        rintro e u1 ⟨rfl, hq1⟩
        have HL1 := hu.trans hq1
        try simp only []
        refine hK.out _ _ HL1 (fun hHeld => ?_)
        clear hK K
        try simp only [Act.put, List.setIfInBounds_toArray, List.set_cons_zero, List.set_cons_succ, List.getElem_toArray, List.getElem_cons_zero, List.getElem_cons_succ]
        have hnx := H3_1 u1 g1 HL1 hw1 ((Below.block hq1 _ (lt_of_heap he1)).trans he1)
        rw [hR] at hnx
        exact reL (by kernel_rfl) hnx
      refine AllReadyH.cons (i := 10) rfl (fun K hK => ?_) ?_
      · try simp only [List.getElem_toArray, List.getElem_cons_zero, List.getElem_cons_succ]
        go_simp
        refine hK.out _ _ (hu.alloc (.cells #[.int .u64 0, .int .u64 0, .int .u64 0, .int .u64 0, .int .u64 0, .int .u64 0, .int .u64 0, .int .u64 0, .int .u64 0, .int .u64 0, .complex .f64 0 0] 29)) (fun hHeld => ?_)
        clear hK K
        try simp only [Act.put, List.setIfInBounds_toArray, List.set_cons_zero, List.set_cons_succ, List.getElem_toArray, List.getElem_cons_zero, List.getElem_cons_succ]
        have hnx := H2_12 (u.alloc (.cells #[.int .u64 0, .int .u64 0, .int .u64 0, .int .u64 0, .int .u64 0, .int .u64 0, .int .u64 0, .int .u64 0, .int .u64 0, .int .u64 0, .complex .f64 0 0] 29)) g1 u.heap.size (hu.alloc (.cells #[.int .u64 0, .int .u64 0, .int .u64 0, .int .u64 0, .int .u64 0, .int .u64 0, .int .u64 0, .int .u64 0, .int .u64 0, .int .u64 0, .complex .f64 0 0] 29)) hw1 ((Below.block ((Later.refl u).alloc (.cells #[.int .u64 0, .int .u64 0, .int .u64 0, .int .u64 0, .int .u64 0, .int .u64 0, .int .u64 0, .int .u64 0, .int .u64 0, .int .u64 0, .complex .f64 0 0] 29)) _ (lt_of_heap he1)).trans he1) hu.size (heap_alloc_last u (.cells #[.int .u64 0, .int .u64 0, .int .u64 0, .int .u64 0, .int .u64 0, .int .u64 0, .int .u64 0, .int .u64 0, .int .u64 0, .int .u64 0, .complex .f64 0 0] 29)) (Nat.ne_of_lt (lt_of_heap he1))
        rw [hR] at hnx
        exact reL (by kernel_rfl) hnx
      refine AllReadyH.cons (i := 11) rfl (fun K hK => ?_) ?_
      · try simp only [List.getElem_toArray, List.getElem_cons_zero, List.getElem_cons_succ]
        go_simp
        refine hK.out _ _ (hu.alloc (.cells #[.int .u64 0, .int .u64 0, .int .u64 0, .int .u64 0, .int .u64 0, .int .u64 0, .int .u64 0, .int .u64 0, .int .u64 0, .int .u64 0, .complex .f64 0 0] 29)) (fun hHeld => ?_)
        clear hK K
        try simp only [Act.put, List.setIfInBounds_toArray, List.set_cons_zero, List.set_cons_succ, List.getElem_toArray, List.getElem_cons_zero, List.getElem_cons_succ]
        have hnx := H2_13 (u.alloc (.cells #[.int .u64 0, .int .u64 0, .int .u64 0, .int .u64 0, .int .u64 0, .int .u64 0, .int .u64 0, .int .u64 0, .int .u64 0, .int .u64 0, .complex .f64 0 0] 29)) g1 u.heap.size (hu.alloc (.cells #[.int .u64 0, .int .u64 0, .int .u64 0, .int .u64 0, .int .u64 0, .int .u64 0, .int .u64 0, .int .u64 0, .int .u64 0, .int .u64 0, .complex .f64 0 0] 29)) hw1 ((Below.block ((Later.refl u).alloc (.cells #[.int .u64 0, .int .u64 0, .int .u64 0, .int .u64 0, .int .u64 0, .int .u64 0, .int .u64 0, .int .u64 0, .int .u64 0, .int .u64 0, .complex .f64 0 0] 29)) _ (lt_of_heap he1)).trans he1) hu.size (heap_alloc_last u (.cells #[.int .u64 0, .int .u64 0, .int .u64 0, .int .u64 0, .int .u64 0, .int .u64 0, .int .u64 0, .int .u64 0, .int .u64 0, .int .u64 0, .complex .f64 0 0] 29)) (Nat.ne_of_lt (lt_of_heap he1))
        rw [hR] at hnx
        exact reL (by kernel_rfl) hnx
      exact AllReadyH.nil
    have H2_2 : ∀ (u : World) (g2 : Nat), Later W u → W.heap.size ≤ g2 → u.heap[g2]? = some (.cells #[.int .u64 0, .int .u64 0, .int .u64 0, .int .u64 0, .int .u64 0, .int .u64 0, .int .u64 0, .int .u64 0, .int .u64 0, .int .u64 0, .complex .f64 0 0] 29 (0, 0)) → R 6 #[true, true, true, true, true, true, true, true, false, false, true, false, false, false, false] { tmps := #[.agg #[.int .u32 (n 0), .int .u32 (n 1), .int .u32 (n 2), .int .u32 (n 3), .int .u32 (n 4), .int .u32 (n 5), .int .u32 (n 6), .int .u32 (n 7), .int .u32 (n 8), .int .u32 (n 9)], .agg #[.int .u32 (m 0), .int .u32 (m 1), .int .u32 (m 2), .int .u32 (m 3), .int .u32 (m 4), .int .u32 (m 5), .int .u32 (m 6), .int .u32 (m 7), .int .u32 (m 8), .int .u32 (m 9)], .agg #[.int .u32 (o 0), .int .u32 (o 1), .int .u32 (o 2), .int .u32 (o 3), .int .u32 (o 4), .int .u32 (o 5), .int .u32 (o 6), .int .u32 (o 7), .int .u32 (o 8), .int .u32 (o 9)], v1, v2, v3, .int .u8 fl, .pointer (some ⟨T, 0, none⟩), .pointer (some ⟨T + 1, 0, none⟩), .pointer (some ⟨T + 1 + 1, 0, none⟩), undef, undef, undef, undef, .bool false, undef, .pointer (some ⟨g2, 0, none⟩), undef, undef, undef, undef, undef, undef, undef, undef, undef, undef, undef, undef, undef, .agg #[.int .u32 (n 0), .int .u32 (n 1), .int .u32 (n 2), .int .u32 (n 3), .int .u32 (n 4), .int .u32 (n 5), .int .u32 (n 6), .int .u32 (n 7), .int .u32 (n 8), .int .u32 (n 9)], v1, .agg #[.int .u64 (n 0), .int .u64 (n 1), .int .u64 (n 2), .int .u64 (n 3), .int .u64 (n 4), .int .u64 (n 5), .int .u64 (n 6), .int .u64 (n 7), .int .u64 (n 8), .int .u64 (n 9), .complex .f64 A1 B1], .agg #[.int .u32 (m 0), .int .u32 (m 1), .int .u32 (m 2), .int .u32 (m 3), .int .u32 (m 4), .int .u32 (m 5), .int .u32 (m 6), .int .u32 (m 7), .int .u32 (m 8), .int .u32 (m 9)], v2, .agg #[.int .u64 (m 0), .int .u64 (m 1), .int .u64 (m 2), .int .u64 (m 3), .int .u64 (m 4), .int .u64 (m 5), .int .u64 (m 6), .int .u64 (m 7), .int .u64 (m 8), .int .u64 (m 9), .complex .f64 A2 B2], .agg #[.int .u32 (o 0), .int .u32 (o 1), .int .u32 (o 2), .int .u32 (o 3), .int .u32 (o 4), .int .u32 (o 5), .int .u32 (o 6), .int .u32 (o 7), .int .u32 (o 8), .int .u32 (o 9)], v3, undef, undef, undef, undef, undef, undef, undef, undef, undef, undef, undef, undef, undef, undef, undef, undef, undef, undef, undef, undef, undef, undef, undef, undef, undef, undef, undef, undef, undef, undef, undef, undef, undef, undef, undef, undef, undef, undef, undef, undef, undef, undef, undef, undef, undef, undef, undef, undef, undef, undef, undef, undef, undef, undef, undef, undef, undef, undef, undef, undef, undef, undef, undef, undef, undef, undef, undef, undef, undef, undef, undef, undef, undef, undef, undef, undef, undef, undef, undef, undef, undef, undef, undef, undef, undef, undef, undef, undef, undef, undef, undef, undef, undef, undef, undef, undef, undef, undef], defers := [] } u := by
      intro u g2 hu hw2 he2
      rw [hR]
      refine wpAnyH_ready (rs := [8, 9, 11]) (by kernel_rfl) (by simp) ?_
      refine AllReadyH.cons (i := 8) rfl (fun K hK => ?_) ?_
      · try simp only [List.getElem_toArray, List.getElem_cons_zero, List.getElem_cons_succ]
        rw [if_pos (by rfl)]
        go_simp
        refine (HV3.out u hu).mono ?_
        rintro e u1 ⟨rfl, hq1⟩
        have HL1 := hu.trans hq1
        try simp only []
        refine hK.out _ _ HL1 (fun hHeld => ?_)
        clear hK K
        try simp only [Act.put, List.setIfInBounds_toArray, List.set_cons_zero, List.set_cons_succ, List.getElem_toArray, List.getElem_cons_zero, List.getElem_cons_succ]
        have hnx := H3_2 u1 g2 HL1 hw2 ((Below.block hq1 _ (lt_of_heap he2)).trans he2)
        rw [hR] at hnx
        exact reL (by kernel_rfl) hnx
      refine AllReadyH.cons (i := 9) rfl (fun K hK => ?_) ?_
      · try simp only [List.getElem_toArray, List.getElem_cons_zero, List.getElem_cons_succ]
        go_simp
        refine hK.out _ _ (hu.alloc (.cells #[.int .u64 0, .int .u64 0, .int .u64 0, .int .u64 0, .int .u64 0, .int .u64 0, .int .u64 0, .int .u64 0, .int .u64 0, .int .u64 0, .complex .f64 0 0] 29)) (fun hHeld => ?_)
        clear hK K
        try simp only [Act.put, List.setIfInBounds_toArray, List.set_cons_zero, List.set_cons_succ, List.getElem_toArray, List.getElem_cons_zero, List.getElem_cons_succ]
        have hnx := H2_12 (u.alloc (.cells #[.int .u64 0, .int .u64 0, .int .u64 0, .int .u64 0, .int .u64 0, .int .u64 0, .int .u64 0, .int .u64 0, .int .u64 0, .int .u64 0, .complex .f64 0 0] 29)) u.heap.size g2 (hu.alloc (.cells #[.int .u64 0, .int .u64 0, .int .u64 0, .int .u64 0, .int .u64 0, .int .u64 0, .int .u64 0, .int .u64 0, .int .u64 0, .int .u64 0, .complex .f64 0 0] 29)) hu.size (heap_alloc_last u (.cells #[.int .u64 0, .int .u64 0, .int .u64 0, .int .u64 0, .int .u64 0, .int .u64 0, .int .u64 0, .int .u64 0, .int .u64 0, .int .u64 0, .complex .f64 0 0] 29)) hw2 ((Below.block ((Later.refl u).alloc (.cells #[.int .u64 0, .int .u64 0, .int .u64 0, .int .u64 0, .int .u64 0, .int .u64 0, .int .u64 0, .int .u64 0, .int .u64 0, .int .u64 0, .complex .f64 0 0] 29)) _ (lt_of_heap he2)).trans he2) (Nat.ne_of_gt (lt_of_heap he2))
        rw [hR] at hnx
        exact reL (by kernel_rfl) hnx
      refine AllReadyH.cons (i := 11) rfl (fun K hK => ?_) ?_
      · try simp only [List.getElem_toArray, List.getElem_cons_zero, List.getElem_cons_succ]
        go_simp
        refine hK.out _ _ (hu.alloc (.cells #[.int .u64 0, .int .u64 0, .int .u64 0, .int .u64 0, .int .u64 0, .int .u64 0, .int .u64 0, .int .u64 0, .int .u64 0, .int .u64 0, .complex .f64 0 0] 29)) (fun hHeld => ?_)
        clear hK K
        try simp only [Act.put, List.setIfInBounds_toArray, List.set_cons_zero, List.set_cons_succ, List.getElem_toArray, List.getElem_cons_zero, List.getElem_cons_succ]
        have hnx := H2_23 (u.alloc (.cells #[.int .u64 0, .int .u64 0, .int .u64 0, .int .u64 0, .int .u64 0, .int .u64 0, .int .u64 0, .int .u64 0, .int .u64 0, .int .u64 0, .complex .f64 0 0] 29)) g2 u.heap.size (hu.alloc (.cells #[.int .u64 0, .int .u64 0, .int .u64 0, .int .u64 0, .int .u64 0, .int .u64 0, .int .u64 0, .int .u64 0, .int .u64 0, .int .u64 0, .complex .f64 0 0] 29)) hw2 ((Below.block ((Later.refl u).alloc (.cells #[.int .u64 0, .int .u64 0, .int .u64 0, .int .u64 0, .int .u64 0, .int .u64 0, .int .u64 0, .int .u64 0, .int .u64 0, .int .u64 0, .complex .f64 0 0] 29)) _ (lt_of_heap he2)).trans he2) hu.size (heap_alloc_last u (.cells #[.int .u64 0, .int .u64 0, .int .u64 0, .int .u64 0, .int .u64 0, .int .u64 0, .int .u64 0, .int .u64 0, .int .u64 0, .int .u64 0, .complex .f64 0 0] 29)) (Nat.ne_of_lt (lt_of_heap he2))
        rw [hR] at hnx
        exact reL (by kernel_rfl) hnx
      exact AllReadyH.nil
    have H2_3 : ∀ (u : World) (g3 : Nat), Later W u → W.heap.size ≤ g3 → u.heap[g3]? = some (.cells #[.int .u64 0, .int .u64 0, .int .u64 0, .int .u64 0, .int .u64 0, .int .u64 0, .int .u64 0, .int .u64 0, .int .u64 0, .int .u64 0, .complex .f64 0 0] 29 (0, 0)) → R 6 #[true, true, true, true, true, true, true, true, false, false, false, true, false, false, false] { tmps := #[.agg #[.int .u32 (n 0), .int .u32 (n 1), .int .u32 (n 2), .int .u32 (n 3), .int .u32 (n 4), .int .u32 (n 5), .int .u32 (n 6), .int .u32 (n 7), .int .u32 (n 8), .int .u32 (n 9)], .agg #[.int .u32 (m 0), .int .u32 (m 1), .int .u32 (m 2), .int .u32 (m 3), .int .u32 (m 4), .int .u32 (m 5), .int .u32 (m 6), .int .u32 (m 7), .int .u32 (m 8), .int .u32 (m 9)], .agg #[.int .u32 (o 0), .int .u32 (o 1), .int .u32 (o 2), .int .u32 (o 3), .int .u32 (o 4), .int .u32 (o 5), .int .u32 (o 6), .int .u32 (o 7), .int .u32 (o 8), .int .u32 (o 9)], v1, v2, v3, .int .u8 fl, .pointer (some ⟨T, 0, none⟩), .pointer (some ⟨T + 1, 0, none⟩), .pointer (some ⟨T + 1 + 1, 0, none⟩), undef, undef, undef, undef, .bool false, undef, undef, .pointer (some ⟨g3, 0, none⟩), undef, undef, undef, undef, undef, undef, undef, undef, undef, undef, undef, undef, .agg #[.int .u32 (n 0), .int .u32 (n 1), .int .u32 (n 2), .int .u32 (n 3), .int .u32 (n 4), .int .u32 (n 5), .int .u32 (n 6), .int .u32 (n 7), .int .u32 (n 8), .int .u32 (n 9)], v1, .agg #[.int .u64 (n 0), .int .u64 (n 1), .int .u64 (n 2), .int .u64 (n 3), .int .u64 (n 4), .int .u64 (n 5), .int .u64 (n 6), .int .u64 (n 7), .int .u64 (n 8), .int .u64 (n 9), .complex .f64 A1 B1], .agg #[.int .u32 (m 0), .int .u32 (m 1), .int .u32 (m 2), .int .u32 (m 3), .int .u32 (m 4), .int .u32 (m 5), .int .u32 (m 6), .int .u32 (m 7), .int .u32 (m 8), .int .u32 (m 9)], v2, .agg #[.int .u64 (m 0), .int .u64 (m 1), .int .u64 (m 2), .int .u64 (m 3), .int .u64 (m 4), .int .u64 (m 5), .int .u64 (m 6), .int .u64 (m 7), .int .u64 (m 8), .int .u64 (m 9), .complex .f64 A2 B2], .agg #[.int .u32 (o 0), .int .u32 (o 1), .int .u32 (o 2), .int .u32 (o 3), .int .u32 (o 4), .int .u32 (o 5), .int .u32 (o 6), .int .u32 (o 7), .int .u32 (o 8), .int .u32 (o 9)], v3, undef, undef, undef, undef, undef, undef, undef, undef, undef, undef, undef, undef, undef, undef, undef, undef, undef, undef, undef, undef, undef, undef, undef, undef, undef, undef, undef, undef, undef, undef, undef, undef, undef, undef, undef, undef, undef, undef, undef, undef, undef, undef, undef, undef, undef, undef, undef, undef, undef, undef, undef, undef, undef, undef, undef, undef, undef, undef, undef, undef, undef, undef, undef, undef, undef, undef, undef, undef, undef, undef, undef, undef, undef, undef, undef, undef, undef, undef, undef, undef, undef, undef, undef, undef, undef, undef, undef, undef, undef, undef, undef, undef, undef, undef, undef, undef, undef, undef], defers := [] } u := by
      intro u g3 hu hw3 he3
      rw [hR]
      refine wpAnyH_ready (rs := [8, 9, 10]) (by kernel_rfl) (by simp) ?_
      refine AllReadyH.cons (i := 8) rfl (fun K hK => ?_) ?_
      · try simp only [List.getElem_toArray, List.getElem_cons_zero, List.getElem_cons_succ]
        rw [if_pos (by rfl)]
        go_simp
        refine (HV3.out u hu).mono ?_
        rintro e u1 ⟨rfl, hq1⟩
        have HL1 := hu.trans hq1
        try simp only []
        refine hK.out _ _ HL1 (fun hHeld => ?_)
        clear hK K
        try simp only [Act.put, List.setIfInBounds_toArray, List.set_cons_zero, List.set_cons_succ, List.getElem_toArray, List.getElem_cons_zero, List.getElem_cons_succ]
        have hnx := H3_3 u1 g3 HL1 hw3 ((Below.block hq1 _ (lt_of_heap he3)).trans he3)
        rw [hR] at hnx
        exact reL (by kernel_rfl) hnx
      refine AllReadyH.cons (i := 9) rfl (fun K hK => ?_) ?_
      · try simp only [List.getElem_toArray, List.getElem_cons_zero, List.getElem_cons_succ]
        go_simp
        refine hK.out _ _ (hu.alloc (.cells #[.int .u64 0, .int .u64 0, .int .u64 0, .int .u64 0, .int .u64 0, .int .u64 0, .int .u64 0, .int .u64 0, .int .u64 0, .int .u64 0, .complex .f64 0 0] 29)) (fun hHeld => ?_)
        clear hK K
        try simp only [Act.put, List.setIfInBounds_toArray, List.set_cons_zero, List.set_cons_succ, List.getElem_toArray, List.getElem_cons_zero, List.getElem_cons_succ]
        have hnx := H2_13 (u.alloc (.cells #[.int .u64 0, .int .u64 0, .int .u64 0, .int .u64 0, .int .u64 0, .int .u64 0, .int .u64 0, .int .u64 0, .int .u64 0, .int .u64 0, .complex .f64 0 0] 29)) u.heap.size g3 (hu.alloc (.cells #[.int .u64 0, .int .u64 0, .int .u64 0, .int .u64 0, .int .u64 0, .int .u64 0, .int .u64 0, .int .u64 0, .int .u64 0, .int .u64 0, .complex .f64 0 0] 29)) hu.size (heap_alloc_last u (.cells #[.int .u64 0, .int .u64 0, .int .u64 0, .int .u64 0, .int .u64 0, .int .u64 0, .int .u64 0, .int .u64 0, .int .u64 0, .int .u64 0, .complex .f64 0 0] 29)) hw3 ((Below.block ((Later.refl u).alloc (.cells #[.int .u64 0, .int .u64 0, .int .u64 0, .int .u64 0, .int .u64 0, .int .u64 0, .int .u64 0, .int .u64 0, .int .u64 0, .int .u64 0, .complex .f64 0 0] 29)) _ (lt_of_heap he3)).trans he3) (Nat.ne_of_gt (lt_of_heap he3))
        rw [hR] at hnx
        exact reL (by kernel_rfl) hnx
      refine AllReadyH.cons (i := 10) rfl (fun K hK => ?_) ?_
      · try simp only [List.getElem_toArray, List.getElem_cons_zero, List.getElem_cons_succ]
        go_simp
        refine hK.out _ _ (hu.alloc (.cells #[.int .u64 0, .int .u64 0, .int .u64 0, .int .u64 0, .int .u64 0, .int .u64 0, .int .u64 0, .int .u64 0, .int .u64 0, .int .u64 0, .complex .f64 0 0] 29)) (fun hHeld => ?_)
        clear hK K
        try simp only [Act.put, List.setIfInBounds_toArray, List.set_cons_zero, List.set_cons_succ, List.getElem_toArray, List.getElem_cons_zero, List.getElem_cons_succ]
        have hnx := H2_23 (u.alloc (.cells #[.int .u64 0, .int .u64 0, .int .u64 0, .int .u64 0, .int .u64 0, .int .u64 0, .int .u64 0, .int .u64 0, .int .u64 0, .int .u64 0, .complex .f64 0 0] 29)) u.heap.size g3 (hu.alloc (.cells #[.int .u64 0, .int .u64 0, .int .u64 0, .int .u64 0, .int .u64 0, .int .u64 0, .int .u64 0, .int .u64 0, .int .u64 0, .int .u64 0, .complex .f64 0 0] 29)) hu.size (heap_alloc_last u (.cells #[.int .u64 0, .int .u64 0, .int .u64 0, .int .u64 0, .int .u64 0, .int .u64 0, .int .u64 0, .int .u64 0, .int .u64 0, .int .u64 0, .complex .f64 0 0] 29)) hw3 ((Below.block ((Later.refl u).alloc (.cells #[.int .u64 0, .int .u64 0, .int .u64 0, .int .u64 0, .int .u64 0, .int .u64 0, .int .u64 0, .int .u64 0, .int .u64 0, .int .u64 0, .complex .f64 0 0] 29)) _ (lt_of_heap he3)).trans he3) (Nat.ne_of_gt (lt_of_heap he3))
        rw [hR] at hnx
        exact reL (by kernel_rfl) hnx
      exact AllReadyH.nil
    have H2_ : ∀ (u : World), Later W u → R 7 #[true, true, true, true, true, true, true, true, false, false, false, false, false, false, false] { tmps := #[.agg #[.int .u32 (n 0), .int .u32 (n 1), .int .u32 (n 2), .int .u32 (n 3), .int .u32 (n 4), .int .u32 (n 5), .int .u32 (n 6), .int .u32 (n 7), .int .u32 (n 8), .int .u32 (n 9)], .agg #[.int .u32 (m 0), .int .u32 (m 1), .int .u32 (m 2), .int .u32 (m 3), .int .u32 (m 4), .int .u32 (m 5), .int .u32 (m 6), .int .u32 (m 7), .int .u32 (m 8), .int .u32 (m 9)], .agg #[.int .u32 (o 0), .int .u32 (o 1), .int .u32 (o 2), .int .u32 (o 3), .int .u32 (o 4), .int .u32 (o 5), .int .u32 (o 6), .int .u32 (o 7), .int .u32 (o 8), .int .u32 (o 9)], v1, v2, v3, .int .u8 fl, .pointer (some ⟨T, 0, none⟩), .pointer (some ⟨T + 1, 0, none⟩), .pointer (some ⟨T + 1 + 1, 0, none⟩), undef, undef, undef, undef, .bool false, undef, undef, undef, undef, undef, undef, undef, undef, undef, undef, undef, undef, undef, undef, undef, .agg #[.int .u32 (n 0), .int .u32 (n 1), .int .u32 (n 2), .int .u32 (n 3), .int .u32 (n 4), .int .u32 (n 5), .int .u32 (n 6), .int .u32 (n 7), .int .u32 (n 8), .int .u32 (n 9)], v1, .agg #[.int .u64 (n 0), .int .u64 (n 1), .int .u64 (n 2), .int .u64 (n 3), .int .u64 (n 4), .int .u64 (n 5), .int .u64 (n 6), .int .u64 (n 7), .int .u64 (n 8), .int .u64 (n 9), .complex .f64 A1 B1], .agg #[.int .u32 (m 0), .int .u32 (m 1), .int .u32 (m 2), .int .u32 (m 3), .int .u32 (m 4), .int .u32 (m 5), .int .u32 (m 6), .int .u32 (m 7), .int .u32 (m 8), .int .u32 (m 9)], v2, .agg #[.int .u64 (m 0), .int .u64 (m 1), .int .u64 (m 2), .int .u64 (m 3), .int .u64 (m 4), .int .u64 (m 5), .int .u64 (m 6), .int .u64 (m 7), .int .u64 (m 8), .int .u64 (m 9), .complex .f64 A2 B2], .agg #[.int .u32 (o 0), .int .u32 (o 1), .int .u32 (o 2), .int .u32 (o 3), .int .u32 (o 4), .int .u32 (o 5), .int .u32 (o 6), .int .u32 (o 7), .int .u32 (o 8), .int .u32 (o 9)], v3, undef, undef, undef, undef, undef, undef, undef, undef, undef, undef, undef, undef, undef, undef, undef, undef, undef, undef, undef, undef, undef, undef, undef, undef, undef, undef, undef, undef, undef, undef, undef, undef, undef, undef, undef, undef, undef, undef, undef, undef, undef, undef, undef, undef, undef, undef, undef, undef, undef, undef, undef, undef, undef, undef, undef, undef, undef, undef, undef, undef, undef, undef, undef, undef, undef, undef, undef, undef, undef, undef, undef, undef, undef, undef, undef, undef, undef, undef, undef, undef, undef, undef, undef, undef, undef, undef, undef, undef, undef, undef, undef, undef, undef, undef, undef, undef, undef, undef], defers := [] } u := by
      intro u  hu
      rw [hR]
      refine wpAnyH_ready (rs := [8, 9, 10, 11]) (by kernel_rfl) (by simp) ?_
      refine AllReadyH.cons (i := 8) rfl (fun K hK => ?_) ?_
      · try simp only [List.getElem_toArray, List.getElem_cons_zero, List.getElem_cons_succ]
        rw [if_pos (by rfl)]
        go_simp
        refine (HV3.out u hu).mono ?_
        rintro e u1 ⟨rfl, hq1⟩
        have HL1 := hu.trans hq1
        try simp only []
        refine hK.out _ _ HL1 (fun hHeld => ?_)
        clear hK K
        try simp only [Act.put, List.setIfInBounds_toArray, List.set_cons_zero, List.set_cons_succ, List.getElem_toArray, List.getElem_cons_zero, List.getElem_cons_succ]
        have hnx := H3_ u1 HL1
        rw [hR] at hnx
        exact reL (by kernel_rfl) hnx
      refine AllReadyH.cons (i := 9) rfl (fun K hK => ?_) ?_
      · try simp only [List.getElem_toArray, List.getElem_cons_zero, List.getElem_cons_succ]
        go_simp
        refine hK.out _ _ (hu.alloc (.cells #[.int .u64 0, .int .u64 0, .int .u64 0, .int .u64 0, .int .u64 0, .int .u64 0, .int .u64 0, .int .u64 0, .int .u64 0, .int .u64 0, .complex .f64 0 0] 29)) (fun hHeld => ?_)
        clear hK K
        try simp only [Act.put, List.setIfInBounds_toArray, List.set_cons_zero, List.set_cons_succ, List.getElem_toArray, List.getElem_cons_zero, List.getElem_cons_succ]
        have hnx := H2_1 (u.alloc (.cells #[.int .u64 0, .int .u64 0, .int .u64 0, .int .u64 0, .int .u64 0, .int .u64 0, .int .u64 0, .int .u64 0, .int .u64 0, .int .u64 0, .complex .f64 0 0] 29)) u.heap.size (hu.alloc (.cells #[.int .u64 0, .int .u64 0, .int .u64 0, .int .u64 0, .int .u64 0, .int .u64 0, .int .u64 0, .int .u64 0, .int .u64 0, .int .u64 0, .complex .f64 0 0] 29)) hu.size (heap_alloc_last u (.cells #[.int .u64 0, .int .u64 0, .int .u64 0, .int .u64 0, .int .u64 0, .int .u64 0, .int .u64 0, .int .u64 0, .int .u64 0, .int .u64 0, .complex .f64 0 0] 29))
        rw [hR] at hnx
        exact reL (by kernel_rfl) hnx
      refine AllReadyH.cons (i := 10) rfl (fun K hK => ?_) ?_
      · try simp only [List.getElem_toArray, List.getElem_cons_zero, List.getElem_cons_succ]
        go_simp
        refine hK.out _ _ (hu.alloc (.cells #[.int .u64 0, .int .u64 0, .int .u64 0, .int .u64 0, .int .u64 0, .int .u64 0, .int .u64 0, .int .u64 0, .int .u64 0, .int .u64 0, .complex .f64 0 0] 29)) (fun hHeld => ?_)
        clear hK K
        try simp only [Act.put, List.setIfInBounds_toArray, List.set_cons_zero, List.set_cons_succ, List.getElem_toArray, List.getElem_cons_zero, List.getElem_cons_succ]
        have hnx := H2_2 (u.alloc (.cells #[.int .u64 0, .int .u64 0, .int .u64 0, .int .u64 0, .int .u64 0, .int .u64 0, .int .u64 0, .int .u64 0, .int .u64 0, .int .u64 0, .complex .f64 0 0] 29)) u.heap.size (hu.alloc (.cells #[.int .u64 0, .int .u64 0, .int .u64 0, .int .u64 0, .int .u64 0, .int .u64 0, .int .u64 0, .int .u64 0, .int .u64 0, .int .u64 0, .complex .f64 0 0] 29)) hu.size (heap_alloc_last u (.cells #[.int .u64 0, .int .u64 0, .int .u64 0, .int .u64 0, .int .u64 0, .int .u64 0, .int .u64 0, .int .u64 0, .int .u64 0, .int .u64 0, .complex .f64 0 0] 29))
        rw [hR] at hnx
        exact reL (by kernel_rfl) hnx
      refine AllReadyH.cons (i := 11) rfl (fun K hK => ?_) ?_
      · try simp only [List.getElem_toArray, List.getElem_cons_zero, List.getElem_cons_succ]
        go_simp
        refine hK.out _ _ (hu.alloc (.cells #[.int .u64 0, .int .u64 0, .int .u64 0, .int .u64 0, .int .u64 0, .int .u64 0, .int .u64 0, .int .u64 0, .int .u64 0, .int .u64 0, .complex .f64 0 0] 29)) (fun hHeld => ?_)
        clear hK K
        try simp only [Act.put, List.setIfInBounds_toArray, List.set_cons_zero, List.set_cons_succ, List.getElem_toArray, List.getElem_cons_zero, List.getElem_cons_succ]
        have hnx := H2_3 (u.alloc (.cells #[.int .u64 0, .int .u64 0, .int .u64 0, .int .u64 0, .int .u64 0, .int .u64 0, .int .u64 0, .int .u64 0, .int .u64 0, .int .u64 0, .complex .f64 0 0] 29)) u.heap.size (hu.alloc (.cells #[.int .u64 0, .int .u64 0, .int .u64 0, .int .u64 0, .int .u64 0, .int .u64 0, .int .u64 0, .int .u64 0, .int .u64 0, .int .u64 0, .complex .f64 0 0] 29)) hu.size (heap_alloc_last u (.cells #[.int .u64 0, .int .u64 0, .int .u64 0, .int .u64 0, .int .u64 0, .int .u64 0, .int .u64 0, .int .u64 0, .int .u64 0, .int .u64 0, .complex .f64 0 0] 29))
        rw [hR] at hnx
        exact reL (by kernel_rfl) hnx
      exact AllReadyH.nil
    have H1_123 : ∀ (u : World) (g1 g2 g3 : Nat), Later W u → W.heap.size ≤ g1 → u.heap[g1]? = some (.cells #[.int .u64 0, .int .u64 0, .int .u64 0, .int .u64 0, .int .u64 0, .int .u64 0, .int .u64 0, .int .u64 0, .int .u64 0, .int .u64 0, .complex .f64 0 0] 29 (0, 0)) → W.heap.size ≤ g2 → u.heap[g2]? = some (.cells #[.int .u64 0, .int .u64 0, .int .u64 0, .int .u64 0, .int .u64 0, .int .u64 0, .int .u64 0, .int .u64 0, .int .u64 0, .int .u64 0, .complex .f64 0 0] 29 (0, 0)) → W.heap.size ≤ g3 → u.heap[g3]? = some (.cells #[.int .u64 0, .int .u64 0, .int .u64 0, .int .u64 0, .int .u64 0, .int .u64 0, .int .u64 0, .int .u64 0, .int .u64 0, .int .u64 0, .complex .f64 0 0] 29 (0, 0)) → g1 ≠ g2 → g1 ≠ g3 → g2 ≠ g3 → R 5 #[true, true, true, true, true, false, true, true, false, true, true, true, false, false, false] { tmps := #[.agg #[.int .u32 (n 0), .int .u32 (n 1), .int .u32 (n 2), .int .u32 (n 3), .int .u32 (n 4), .int .u32 (n 5), .int .u32 (n 6), .int .u32 (n 7), .int .u32 (n 8), .int .u32 (n 9)], .agg #[.int .u32 (m 0), .int .u32 (m 1), .int .u32 (m 2), .int .u32 (m 3), .int .u32 (m 4), .int .u32 (m 5), .int .u32 (m 6), .int .u32 (m 7), .int .u32 (m 8), .int .u32 (m 9)], .agg #[.int .u32 (o 0), .int .u32 (o 1), .int .u32 (o 2), .int .u32 (o 3), .int .u32 (o 4), .int .u32 (o 5), .int .u32 (o 6), .int .u32 (o 7), .int .u32 (o 8), .int .u32 (o 9)], v1, v2, v3, .int .u8 fl, .pointer (some ⟨T, 0, none⟩), .pointer (some ⟨T + 1, 0, none⟩), .pointer (some ⟨T + 1 + 1, 0, none⟩), undef, undef, undef, undef, .bool false, .pointer (some ⟨g1, 0, none⟩), .pointer (some ⟨g2, 0, none⟩), .pointer (some ⟨g3, 0, none⟩), undef, undef, undef, undef, undef, undef, undef, undef, undef, undef, undef, undef, .agg #[.int .u32 (n 0), .int .u32 (n 1), .int .u32 (n 2), .int .u32 (n 3), .int .u32 (n 4), .int .u32 (n 5), .int .u32 (n 6), .int .u32 (n 7), .int .u32 (n 8), .int .u32 (n 9)], v1, .agg #[.int .u64 (n 0), .int .u64 (n 1), .int .u64 (n 2), .int .u64 (n 3), .int .u64 (n 4), .int .u64 (n 5), .int .u64 (n 6), .int .u64 (n 7), .int .u64 (n 8), .int .u64 (n 9), .complex .f64 A1 B1], .agg #[.int .u32 (m 0), .int .u32 (m 1), .int .u32 (m 2), .int .u32 (m 3), .int .u32 (m 4), .int .u32 (m 5), .int .u32 (m 6), .int .u32 (m 7), .int .u32 (m 8), .int .u32 (m 9)], v2, undef, .agg #[.int .u32 (o 0), .int .u32 (o 1), .int .u32 (o 2), .int .u32 (o 3), .int .u32 (o 4), .int .u32 (o 5), .int .u32 (o 6), .int .u32 (o 7), .int .u32 (o 8), .int .u32 (o 9)], v3, undef, undef, undef, undef, undef, undef, undef, undef, undef, undef, undef, undef, undef, undef, undef, undef, undef, undef, undef, undef, undef, undef, undef, undef, undef, undef, undef, undef, undef, undef, undef, undef, undef, undef, undef, undef, undef, undef, undef, undef, undef, undef, undef, undef, undef, undef, undef, undef, undef, undef, undef, undef, undef, undef, undef, undef, undef, undef, undef, undef, undef, undef, undef, undef, undef, undef, undef, undef, undef, undef, undef, undef, undef, undef, undef, undef, undef, undef, undef, undef, undef, undef, undef, undef, undef, undef, undef, undef, undef, undef, undef, undef, undef, undef, undef, undef, undef, undef], defers := [] } u := by
      intro u g1 g2 g3 hu hw1 he1 hw2 he2 hw3 he3 hn12 hn13 hn23
      rw [hR]
      refine wpAnyH_ready (rs := [5]) (by kernel_rfl) (by simp) ?_
      refine AllReadyH.cons (i := 5) rfl (fun K hK => ?_) ?_
      · try simp only [List.getElem_toArray, List.getElem_cons_zero, List.getElem_cons_succ]
        rw [if_pos (by rfl)]
        go_simp
        refine (HV2.out u hu).mono ?_
        rintro e u1 ⟨rfl, hq1⟩
        have HL1 := hu.trans hq1
        try simp only []
        refine hK.out _ _ HL1 (fun hHeld => ?_)
        clear hK K
        try simp only [Act.put, List.setIfInBounds_toArray, List.set_cons_zero, List.set_cons_succ, List.getElem_toArray, List.getElem_cons_zero, List.getElem_cons_succ]
        have hnx := H2_123 u1 g1 g2 g3 HL1 hw1 ((Below.block hq1 _ (lt_of_heap he1)).trans he1) hw2 ((Below.block hq1 _ (lt_of_heap he2)).trans he2) hw3 ((Below.block hq1 _ (lt_of_heap he3)).trans he3) hn12 hn13 hn23
        rw [hR] at hnx
        exact reL (by kernel_rfl) hnx
      exact AllReadyH.nil
    have H1_12 : ∀ (u : World) (g1 g2 : Nat), Later W u → W.heap.size ≤ g1 → u.heap[g1]? = some (.cells #[.int .u64 0, .int .u64 0, .int .u64 0, .int .u64 0, .int .u64 0, .int .u64 0, .int .u64 0, .int .u64 0, .int .u64 0, .int .u64 0, .complex .f64 0 0] 29 (0, 0)) → W.heap.size ≤ g2 → u.heap[g2]? = some (.cells #[.int .u64 0, .int .u64 0, .int .u64 0, .int .u64 0, .int .u64 0, .int .u64 0, .int .u64 0, .int .u64 0, .int .u64 0, .int .u64 0, .complex .f64 0 0] 29 (0, 0)) → g1 ≠ g2 → R 6 #[true, true, true, true, true, false, true, true, false, true, true, false, false, false, false] { tmps := #[.agg #[.int .u32 (n 0), .int .u32 (n 1), .int .u32 (n 2), .int .u32 (n 3), .int .u32 (n 4), .int .u32 (n 5), .int .u32 (n 6), .int .u32 (n 7), .int .u32 (n 8), .int .u32 (n 9)], .agg #[.int .u32 (m 0), .int .u32 (m 1), .int .u32 (m 2), .int .u32 (m 3), .int .u32 (m 4), .int .u32 (m 5), .int .u32 (m 6), .int .u32 (m 7), .int .u32 (m 8), .int .u32 (m 9)], .agg #[.int .u32 (o 0), .int .u32 (o 1), .int .u32 (o 2), .int .u32 (o 3), .int .u32 (o 4), .int .u32 (o 5), .int .u32 (o 6), .int .u32 (o 7), .int .u32 (o 8), .int .u32 (o 9)], v1, v2, v3, .int .u8 fl, .pointer (some ⟨T, 0, none⟩), .pointer (some ⟨T + 1, 0, none⟩), .pointer (some ⟨T + 1 + 1, 0, none⟩), undef, undef, undef, undef, .bool false, .pointer (some ⟨g1, 0, none⟩), .pointer (some ⟨g2, 0, none⟩), undef, undef, undef, undef, undef, undef, undef, undef, undef, undef, undef, undef, undef, .agg #[.int .u32 (n 0), .int .u32 (n 1), .int .u32 (n 2), .int .u32 (n 3), .int .u32 (n 4), .int .u32 (n 5), .int .u32 (n 6), .int .u32 (n 7), .int .u32 (n 8), .int .u32 (n 9)], v1, .agg #[.int .u64 (n 0), .int .u64 (n 1), .int .u64 (n 2), .int .u64 (n 3), .int .u64 (n 4), .int .u64 (n 5), .int .u64 (n 6), .int .u64 (n 7), .int .u64 (n 8), .int .u64 (n 9), .complex .f64 A1 B1], .agg #[.int .u32 (m 0), .int .u32 (m 1), .int .u32 (m 2), .int .u32 (m 3), .int .u32 (m 4), .int .u32 (m 5), .int .u32 (m 6), .int .u32 (m 7), .int .u32 (m 8), .int .u32 (m 9)], v2, undef, .agg #[.int .u32 (o 0), .int .u32 (o 1), .int .u32 (o 2), .int .u32 (o 3), .int .u32 (o 4), .int .u32 (o 5), .int .u32 (o 6), .int .u32 (o 7), .int .u32 (o 8), .int .u32 (o 9)], v3, undef, undef, undef, undef, undef, undef, undef, undef, undef, undef, undef, undef, undef, undef, undef, undef, undef, undef, undef, undef, undef, undef, undef, undef, undef, undef, undef, undef, undef, undef, undef, undef, undef, undef, undef, undef, undef, undef, undef, undef, undef, undef, undef, undef, undef, undef, undef, undef, undef, undef, undef, undef, undef, undef, undef, undef, undef, undef, undef, undef, undef, undef, undef, undef, undef, undef, undef, undef, undef, undef, undef, undef, undef, undef, undef, undef, undef, undef, undef, undef, undef, undef, undef, undef, undef, undef, undef, undef, undef, undef, undef, undef, undef, undef, undef, undef, undef, undef], defers := [] } u := by
      intro u g1 g2 hu hw1 he1 hw2 he2 hn12
      rw [hR]
      refine wpAnyH_ready (rs := [5, 11]) (by kernel_rfl) (by simp) ?_
      refine AllReadyH.cons (i := 5) rfl (fun K hK => ?_) ?_
      · try simp only [List.getElem_toArray, List.getElem_cons_zero, List.getElem_cons_succ]
        rw [if_pos (by rfl)]
        go_simp
        refine (HV2.out u hu).mono ?_
        rintro e u1 ⟨rfl, hq1⟩
        have HL1 := hu.trans hq1
        try simp only []
        refine hK.out _ _ HL1 (fun hHeld => ?_)
        clear hK K
        try simp only [Act.put, List.setIfInBounds_toArray, List.set_cons_zero, List.set_cons_succ, List.getElem_toArray, List.getElem_cons_zero, List.getElem_cons_succ]
        have hnx := H2_12 u1 g1 g2 HL1 hw1 ((Below.block hq1 _ (lt_of_heap he1)).trans he1) hw2 ((Below.block hq1 _ (lt_of_heap he2)).trans he2) hn12
        rw [hR] at hnx
        exact reL (by kernel_rfl) hnx
      refine AllReadyH.cons (i := 11) rfl (fun K hK => ?_) ?_
      · try simp only [List.getElem_toArray, List.getElem_cons_zero, List.getElem_cons_succ]
        go_simp
        refine hK.out _ _ (hu.alloc (.cells #[.int .u64 0, .int .u64 0, .int .u64 0, .int .u64 0, .int .u64 0, .int .u64 0, .int .u64 0, .int .u64 0, .int .u64 0, .int .u64 0, .complex .f64 0 0] 29)) (fun hHeld => ?_)
        clear hK K
        try simp only [Act.put, List.setIfInBounds_toArray, List.set_cons_zero, List.set_cons_succ, List.getElem_toArray, List.getElem_cons_zero, List.getElem_cons_succ]
        have hnx := H1_123 (u.alloc (.cells #[.int .u64 0, .int .u64 0, .int .u64 0, .int .u64 0, .int .u64 0, .int .u64 0, .int .u64 0, .int .u64 0, .int .u64 0, .int .u64 0, .complex .f64 0 0] 29)) g1 g2 u.heap.size (hu.alloc (.cells #[.int .u64 0, .int .u64 0, .int .u64 0, .int .u64 0, .int .u64 0, .int .u64 0, .int .u64 0, .int .u64 0, .int .u64 0, .int .u64 0, .complex .f64 0 0] 29)) hw1 ((Below.block ((Later.refl u).alloc (.cells #[.int .u64 0, .int .u64 0, .int .u64 0, .int .u64 0, .int .u64 0, .int .u64 0, .int .u64 0, .int .u64 0, .int .u64 0, .int .u64 0, .complex .f64 0 0] 29)) _ (lt_of_heap he1)).trans he1) hw2 ((Below.block ((Later.refl u).alloc (.cells #[.int .u64 0, .int .u64 0, .int .u64 0, .int .u64 0, .int .u64 0, .int .u64 0, .int .u64 0, .int .u64 0, .int .u64 0, .int .u64 0, .complex .f64 0 0] 29)) _ (lt_of_heap he2)).trans he2) hu.size (heap_alloc_last u (.cells #[.int .u64 0, .int .u64 0, .int .u64 0, .int .u64 0, .int .u64 0, .int .u64 0, .int .u64 0, .int .u64 0, .int .u64 0, .int .u64 0, .complex .f64 0 0] 29)) hn12 (Nat.ne_of_lt (lt_of_heap he1)) (Nat.ne_of_lt (lt_of_heap he2))
        rw [hR] at hnx
        exact reL (by kernel_rfl) hnx
      exact AllReadyH.nil
    have H1_13 : ∀ (u : World) (g1 g3 : Nat), Later W u → W.heap.size ≤ g1 → u.heap[g1]? = some (.cells #[.int .u64 0, .int .u64 0, .int .u64 0, .int .u64 0, .int .u64 0, .int .u64 0, .int .u64 0, .int .u64 0, .int .u64 0, .int .u64 0, .complex .f64 0 0] 29 (0, 0)) → W.heap.size ≤ g3 → u.heap[g3]? = some (.cells #[.int .u64 0, .int .u64 0, .int .u64 0, .int .u64 0, .int .u64 0, .int .u64 0, .int .u64 0, .int .u64 0, .int .u64 0, .int .u64 0, .complex .f64 0 0] 29 (0, 0)) → g1 ≠ g3 → R 6 #[true, true, true, true, true, false, true, true, false, true, false, true, false, false, false] { tmps := #[.agg #[.int .u32 (n 0), .int .u32 (n 1), .int .u32 (n 2), .int .u32 (n 3), .int .u32 (n 4), .int .u32 (n 5), .int .u32 (n 6), .int .u32 (n 7), .int .u32 (n 8), .int .u32 (n 9)], .agg #[.int .u32 (m 0), .int .u32 (m 1), .int .u32 (m 2), .int .u32 (m 3), .int .u32 (m 4), .int .u32 (m 5), .int .u32 (m 6), .int .u32 (m 7), .int .u32 (m 8), .int .u32 (m 9)], .agg #[.int .u32 (o 0), .int .u32 (o 1), .int .u32 (o 2), .int .u32 (o 3), .int .u32 (o 4), .int .u32 (o 5), .int .u32 (o 6), .int .u32 (o 7), .int .u32 (o 8), .int .u32 (o 9)], v1, v2, v3, .int .u8 fl, .pointer (some ⟨T, 0, none⟩), .pointer (some ⟨T + 1, 0, none⟩), .pointer (some ⟨T + 1 + 1, 0, none⟩), undef, undef, undef, undef, .bool false, .pointer (some ⟨g1, 0, none⟩), undef, .pointer (some ⟨g3, 0, none⟩), undef, undef, undef, undef, undef, undef, undef, undef, undef, undef, undef, undef, .agg #[.int .u32 (n 0), .int .u32 (n 1), .int .u32 (n 2), .int .u32 (n 3), .int .u32 (n 4), .int .u32 (n 5), .int .u32 (n 6), .int .u32 (n 7), .int .u32 (n 8), .int .u32 (n 9)], v1, .agg #[.int .u64 (n 0), .int .u64 (n 1), .int .u64 (n 2), .int .u64 (n 3), .int .u64 (n 4), .int .u64 (n 5), .int .u64 (n 6), .int .u64 (n 7), .int .u64 (n 8), .int .u64 (n 9), .complex .f64 A1 B1], .agg #[.int .u32 (m 0), .int .u32 (m 1), .int .u32 (m 2), .int .u32 (m 3), .int .u32 (m 4), .int .u32 (m 5), .int .u32 (m 6), .int .u32 (m 7), .int .u32 (m 8), .int .u32 (m 9)], v2, undef, .agg #[.int .u32 (o 0), .int .u32 (o 1), .int .u32 (o 2), .int .u32 (o 3), .int .u32 (o 4), .int .u32 (o 5), .int .u32 (o 6), .int .u32 (o 7), .int .u32 (o 8), .int .u32 (o 9)], v3, undef, undef, undef, undef, undef, undef, undef, undef, undef, undef, undef, undef, undef, undef, undef, undef, undef, undef, undef, undef, undef, undef, undef, undef, undef, undef, undef, undef, undef, undef, undef, undef, undef, undef, undef, undef, undef, undef, undef, undef, undef, undef, undef, undef, undef, undef, undef, undef, undef, undef, undef, undef, undef, undef, undef, undef, undef, undef, undef, undef, undef, undef, undef, undef, undef, undef, undef, undef, undef, undef, undef, undef, undef, undef, undef, undef, undef, undef, undef, undef, undef, undef, undef, undef, undef, undef, undef, undef, undef, undef, undef, undef, undef, undef, undef, undef, undef, undef], defers := [] } u := by
      intro u g1 g3 hu hw1 he1 hw3 he3 hn13
      rw [hR]
      refine wpAnyH_ready (rs := [5, 10]) (by kernel_rfl) (by simp) ?_
      refine AllReadyH.cons (i := 5) rfl (fun K hK => ?_) ?_
      · try simp only [List.getElem_toArray, List.getElem_cons_zero, List.getElem_cons_succ]
        rw [if_pos (by rfl)]
        go_simp
        refine (HV2.out u hu).mono ?_
        rintro e u1 ⟨rfl, hq1⟩
        have HL1 := hu.trans hq1
        try simp only []
        refine hK.out _ _ HL1 (fun hHeld => ?_)
        clear hK K
        try simp only [Act.put, List.setIfInBounds_toArray, List.set_cons_zero, List.set_cons_succ, List.getElem_toArray, List.getElem_cons_zero, List.getElem_cons_succ]
        have hnx := H2_13 u1 g1 g3 HL1 hw1 ((Below.block hq1 _ (lt_of_heap he1)).trans he1) hw3 ((Below.block hq1 _ (lt_of_heap he3)).trans he3) hn13
        rw [hR] at hnx
        exact reL (by kernel_rfl) hnx
      refine AllReadyH.cons (i := 10) rfl (fun K hK => ?_) ?_
      · try simp only [List.getElem_toArray, List.getElem_cons_zero, List.getElem_cons_succ]
        go_simp
        refine hK.out _ _ (hu.alloc (.cells #[.int .u64 0, .int .u64 0, .int .u64 0, .int .u64 0, .int .u64 0, .int .u64 0, .int .u64 0, .int .u64 0, .int .u64 0, .int .u64 0, .complex .f64 0 0] 29)) (fun hHeld => ?_)
        clear hK K
        try simp only [Act.put, List.setIfInBounds_toArray, List.set_cons_zero, List.set_cons_succ, List.getElem_toArray, List.getElem_cons_zero, List.getElem_cons_succ]
        have hnx := H1_123 (u.alloc (.cells #[.int .u64 0, .int .u64 0, .int .u64 0, .int .u64 0, .int .u64 0, .int .u64 0, .int .u64 0, .int .u64 0, .int .u64 0, .int .u64 0, .complex .f64 0 0] 29)) g1 u.heap.size g3 (hu.alloc (.cells #[.int .u64 0, .int .u64 0, .int .u64 0, .int .u64 0, .int .u64 0, .int .u64 0, .int .u64 0, .int .u64 0, .int .u64 0, .int .u64 0, .complex .f64 0 0] 29)) hw1 ((Below.block ((Later.refl u).alloc (.cells #[.int .u64 0, .int .u64 0, .int .u64 0, .int .u64 0, .int .u64 0, .int .u64 0, .int .u64 0, .int .u64 0, .int .u64 0, .int .u64 0, .complex .f64 0 0] 29)) _ (lt_of_heap he1)).trans he1) hu.size (heap_alloc_last u (.cells #[.int .u64 0, .int .u64 0, .int .u64 0, .int .u64 0, .int .u64 0, .int .u64 0, .int .u64 0, .int .u64 0, .int .u64 0, .int .u64 0, .complex .f64 0 0] 29)) hw3 ((Below.block ((Later.refl u).alloc (.cells #[.int .u64 0, .int .u64 0, .int .u64 0, .int .u64 0, .int .u64 0, .int .u64 0, .int .u64 0, .int .u64 0, .int .u64 0, .int .u64 0, .complex .f64 0 0] 29)) _ (lt_of_heap he3)).trans he3) (Nat.ne_of_lt (lt_of_heap he1)) hn13 (Nat.ne_of_gt (lt_of_heap he3))
        rw [hR] at hnx
        exact reL (by kernel_rfl) hnx
      exact AllReadyH.nil
    have H1_23 : ∀ (u : World) (g2 g3 : Nat), Later W u → W.heap.size ≤ g2 → u.heap[g2]? = some (.cells #[.int .u64 0, .int .u64 0, .int .u64 0, .int .u64 0, .int .u64 0, .int .u64 0, .int .u64 0, .int .u64 0, .int .u64 0, .int .u64 0, .complex .f64 0 0] 29 (0, 0)) → W.heap.size ≤ g3 → u.heap[g3]? = some (.cells #[.int .u64 0, .int .u64 0, .int .u64 0, .int .u64 0, .int .u64 0, .int .u64 0, .int .u64 0, .int .u64 0, .int .u64 0, .int .u64 0, .complex .f64 0 0] 29 (0, 0)) → g2 ≠ g3 → R 6 #[true, true, true, true, true, false, true, true, false, false, true, true, false, false, false] { tmps := #[.agg #[.int .u32 (n 0), .int .u32 (n 1), .int .u32 (n 2), .int .u32 (n 3), .int .u32 (n 4), .int .u32 (n 5), .int .u32 (n 6), .int .u32 (n 7), .int .u32 (n 8), .int .u32 (n 9)], .agg #[.int .u32 (m 0), .int .u32 (m 1), .int .u32 (m 2), .int .u32 (m 3), .int .u32 (m 4), .int .u32 (m 5), .int .u32 (m 6), .int .u32 (m 7), .int .u32 (m 8), .int .u32 (m 9)], .agg #[.int .u32 (o 0), .int .u32 (o 1), .int .u32 (o 2), .int .u32 (o 3), .int .u32 (o 4), .int .u32 (o 5), .int .u32 (o 6), .int .u32 (o 7), .int .u32 (o 8), .int .u32 (o 9)], v1, v2, v3, .int .u8 fl, .pointer (some ⟨T, 0, none⟩), .pointer (some ⟨T + 1, 0, none⟩), .pointer (some ⟨T + 1 + 1, 0, none⟩), undef, undef, undef, undef, .bool false, undef, .pointer (some ⟨g2, 0, none⟩), .pointer (some ⟨g3, 0, none⟩), undef, undef, undef, undef, undef, undef, undef, undef, undef, undef, undef, undef, .agg #[.int .u32 (n 0), .int .u32 (n 1), .int .u32 (n 2), .int .u32 (n 3), .int .u32 (n 4), .int .u32 (n 5), .int .u32 (n 6), .int .u32 (n 7), .int .u32 (n 8), .int .u32 (n 9)], v1, .agg #[.int .u64 (n 0), .int .u64 (n 1), .int .u64 (n 2), .int .u64 (n 3), .int .u64 (n 4), .int .u64 (n 5), .int .u64 (n 6), .int .u64 (n 7), .int .u64 (n 8), .int .u64 (n 9), .complex .f64 A1 B1], .agg #[.int .u32 (m 0), .int .u32 (m 1), .int .u32 (m 2), .int .u32 (m 3), .int .u32 (m 4), .int .u32 (m 5), .int .u32 (m 6), .int .u32 (m 7), .int .u32 (m 8), .int .u32 (m 9)], v2, undef, .agg #[.int .u32 (o 0), .int .u32 (o 1), .int .u32 (o 2), .int .u32 (o 3), .int .u32 (o 4), .int .u32 (o 5), .int .u32 (o 6), .int .u32 (o 7), .int .u32 (o 8), .int .u32 (o 9)], v3, undef, undef, undef, undef, undef, undef, undef, undef, undef, undef, undef, undef, undef, undef, undef, undef, undef, undef, undef, undef, undef, undef, undef, undef, undef, undef, undef, undef, undef, undef, undef, undef, undef, undef, undef, undef, undef, undef, undef, undef, undef, undef, undef, undef, undef, undef, undef, undef, undef, undef, undef, undef, undef, undef, undef, undef, undef, undef, undef, undef, undef, undef, undef, undef, undef, undef, undef, undef, undef, undef, undef, undef, undef, undef, undef, undef, undef, undef, undef, undef, undef, undef, undef, undef, undef, undef, undef, undef, undef, undef, undef, undef, undef, undef, undef, undef, undef, undef], defers := [] } u := by
      intro u g2 g3 hu hw2 he2 hw3 he3 hn23
      rw [hR]
      refine wpAnyH_ready (rs := [5, 9]) (by kernel_rfl) (by simp) ?_
      refine AllReadyH.cons (i := 5) rfl (fun K hK => ?_) ?_
      · try simp only [List.getElem_toArray, List.getElem_cons_zero, List.getElem_cons_succ]
        rw [if_pos (by rfl)]
        go_simp
        refine (HV2.out u hu).mono ?_
        rintro e u1 ⟨rfl, hq1⟩
        have HL1 := hu.trans hq1
        try simp only []
        refine hK.out _ _ HL1 (fun hHeld => ?_)
        clear hK K
        try simp only [Act.put, List.setIfInBounds_toArray, List.set_cons_zero, List.set_cons_succ, List.getElem_toArray, List.getElem_cons_zero, List.getElem_cons_succ]
        have hnx := H2_23 u1 g2 g3 HL1 hw2 ((Below.block hq1 _ (lt_of_heap he2)).trans he2) hw3 ((Below.block hq1 _ (lt_of_heap he3)).trans he3) hn23
        rw [hR] at hnx
        exact reL (by kernel_rfl) hnx
      refine AllReadyH.cons (i := 9) rfl (fun K hK => ?_) ?_
      · try simp only [List.getElem_toArray, List.getElem_cons_zero, List.getElem_cons_succ]
        go_simp
        refine hK.out _ _ (hu.alloc (.cells #[.int .u64 0, .int .u64 0, .int .u64 0, .int .u64 0, .int .u64 0, .int .u64 0, .int .u64 0, .int .u64 0, .int .u64 0, .int .u64 0, .complex .f64 0 0] 29)) (fun hHeld => ?_)
        clear hK K
        try simp only [Act.put, List.setIfInBounds_toArray, List.set_cons_zero, List.set_cons_succ, List.getElem_toArray, List.getElem_cons_zero, List.getElem_cons_succ]
        have hnx := H1_123 (u.alloc (.cells #[.int .u64 0, .int .u64 0, .int .u64 0, .int .u64 0, .int .u64 0, .int .u64 0, .int .u64 0, .int .u64 0, .int .u64 0, .int .u64 0, .complex .f64 0 0] 29)) u.heap.size g2 g3 (hu.alloc (.cells #[.int .u64 0, .int .u64 0, .int .u64 0, .int .u64 0, .int .u64 0, .int .u64 0, .int .u64 0, .int .u64 0, .int .u64 0, .int .u64 0, .complex .f64 0 0] 29)) hu.size (heap_alloc_last u (.cells #[.int .u64 0, .int .u64 0, .int .u64 0, .int .u64 0, .int .u64 0, .int .u64 0, .int .u64 0, .int .u64 0, .int .u64 0, .int .u64 0, .complex .f64 0 0] 29)) hw2 ((Below.block ((Later.refl u).alloc (.cells #[.int .u64 0, .int .u64 0, .int .u64 0, .int .u64 0, .int .u64 0, .int .u64 0, .int .u64 0, .int .u64 0, .int .u64 0, .int .u64 0, .complex .f64 0 0] 29)) _ (lt_of_heap he2)).trans he2) hw3 ((Below.block ((Later.refl u).alloc (.cells #[.int .u64 0, .int .u64 0, .int .u64 0, .int .u64 0, .int .u64 0, .int .u64 0, .int .u64 0, .int .u64 0, .int .u64 0, .int .u64 0, .complex .f64 0 0] 29)) _ (lt_of_heap he3)).trans he3) (Nat.ne_of_gt (lt_of_heap he2)) (Nat.ne_of_gt (lt_of_heap he3)) hn23
        rw [hR] at hnx
        exact reL (by kernel_rfl) hnx
      exact AllReadyH.nil
    have H1_1 : ∀ (u : World) (g1 : Nat), Later W u → W.heap.size ≤ g1 → u.heap[g1]? = some (.cells #[.int .u64 0, .int .u64 0, .int .u64 0, .int .u64 0, .int .u64 0, .int .u64 0, .int .u64 0, .int .u64 0, .int .u64 0, .int .u64 0, .complex .f64 0 0] 29 (0, 0)) → R 7 #[true, true, true, true, true, false, true, true, false, true, false, false, false, false, false] { tmps := #[.agg #[.int .u32 (n 0), .int .u32 (n 1), .int .u32 (n 2), .int .u32 (n 3), .int .u32 (n 4), .int .u32 (n 5), .int .u32 (n 6), .int .u32 (n 7), .int .u32 (n 8), .int .u32 (n 9)], .agg #[.int .u32 (m 0), .int .u32 (m 1), .int .u32 (m 2), .int .u32 (m 3), .int .u32 (m 4), .int .u32 (m 5), .int .u32 (m 6), .int .u32 (m 7), .int .u32 (m 8), .int .u32 (m 9)], .agg #[.int .u32 (o 0), .int .u32 (o 1), .int .u32 (o 2), .int .u32 (o 3), .int .u32 (o 4), .int .u32 (o 5), .int .u32 (o 6), .int .u32 (o 7), .int .u32 (o 8), .int .u32 (o 9)], v1, v2, v3, .int .u8 fl, .pointer (some ⟨T, 0, none⟩), .pointer (some ⟨T + 1, 0, none⟩), .pointer (some ⟨T + 1 + 1, 0, none⟩), undef, undef, undef, undef, .bool false, .pointer (some ⟨g1, 0, none⟩), undef, undef, undef, undef, undef, undef, undef, undef, undef, undef, undef, undef, undef, undef, .agg #[.int .u32 (n 0), .int .u32 (n 1), .int .u32 (n 2), .int .u32 (n 3), .int .u32 (n 4), .int .u32 (n 5), .int .u32 (n 6), .int .u32 (n 7), .int .u32 (n 8), .int .u32 (n 9)], v1, .agg #[.int .u64 (n 0), .int .u64 (n 1), .int .u64 (n 2), .int .u64 (n 3), .int .u64 (n 4), .int .u64 (n 5), .int .u64 (n 6), .int .u64 (n 7), .int .u64 (n 8), .int .u64 (n 9), .complex .f64 A1 B1], .agg #[.int .u32 (m 0), .int .u32 (m 1), .int .u32 (m 2), .int .u32 (m 3), .int .u32 (m 4), .int .u32 (m 5), .int .u32 (m 6), .int .u32 (m 7), .int .u32 (m 8), .int .u32 (m 9)], v2, undef, .agg #[.int .u32 (o 0), .int .u32 (o 1), .int .u32 (o 2), .int .u32 (o 3), .int .u32 (o 4), .int .u32 (o 5), .int .u32 (o 6), .int .u32 (o 7), .int .u32 (o 8), .int .u32 (o 9)], v3, undef, undef, undef, undef, undef, undef, undef, undef, undef, undef, undef, undef, undef, undef, undef, undef, undef, undef, undef, undef, undef, undef, undef, undef, undef, undef, undef, undef, undef, undef, undef, undef, undef, undef, undef, undef, undef, undef, undef, undef, undef, undef, undef, undef, undef, undef, undef, undef, undef, undef, undef, undef, undef, undef, undef, undef, undef, undef, undef, undef, undef, undef, undef, undef, undef, undef, undef, undef, undef, undef, undef, undef, undef, undef, undef, undef, undef, undef, undef, undef, undef, undef, undef, undef, undef, undef, undef, undef, undef, undef, undef, undef, undef, undef, undef, undef, undef, undef], defers := [] } u := by
      intro u g1 hu hw1 he1
      rw [hR]
      refine wpAnyH_ready (rs := [5, 10, 11]) (by kernel_rfl) (by simp) ?_
      refine AllReadyH.cons (i := 5) rfl (fun K hK => ?_) ?_
      · try simp only [List.getElem_toArray, List.getElem_cons_zero, List.getElem_cons_succ]
        rw [if_pos (by rfl)]
        go_simp
        refine (HV2.out u hu).mono ?_
        rintro e u1 ⟨rfl, hq1⟩
        have HL1 := hu.trans hq1
        try simp only []
        refine hK.out _ _ HL1 (fun hHeld => ?_)
        clear hK K
        try simp only [Act.put, List.setIfInBounds_toArray, List.set_cons_zero, List.set_cons_succ, List.getElem_toArray, List.getElem_cons_zero, List.getElem_cons_succ]
        have hnx := H2_1 u1 g1 HL1 hw1 ((Below.block hq1 _ (lt_of_heap he1)).trans he1)
        rw [hR] at hnx
        exact reL (by kernel_rfl) hnx
      refine AllReadyH.cons (i := 10) rfl (fun K hK => ?_) ?_
      · try simp only [List.getElem_toArray, List.getElem_cons_zero, List.getElem_cons_succ]
        go_simp
        refine hK.out _ _ (hu.alloc (.cells #[.int .u64 0, .int .u64 0, .int .u64 0, .int .u64 0, .int .u64 0, .int .u64 0, .int .u64 0, .int .u64 0, .int .u64 0, .int .u64 0, .complex .f64 0 0] 29)) (fun hHeld => ?_)
        clear hK K
        try simp only [Act.put, List.setIfInBounds_toArray, List.set_cons_zero, List.set_cons_succ, List.getElem_toArray, List.getElem_cons_zero, List.getElem_cons_succ]
        have hnx := H1_12 (u.alloc (.cells #[.int .u64 0, .int .u64 0, .int .u64 0, .int .u64 0, .int .u64 0, .int .u64 0, .int .u64 0, .int .u64 0, .int .u64 0, .int .u64 0, .complex .f64 0 0] 29)) g1 u.heap.size (hu.alloc (.cells #[.int .u64 0, .int .u64 0, .int .u64 0, .int .u64 0, .int .u64 0, .int .u64 0, .int .u64 0, .int .u64 0, .int .u64 0, .int .u64 0, .complex .f64 0 0] 29)) hw1 ((Below.block ((Later.refl u).alloc (.cells #[.int .u64 0, .int .u64 0, .int .u64 0, .int .u64 0, .int .u64 0, .int .u64 0, .int .u64 0, .int .u64 0, .int .u64 0, .int .u64 0, .complex .f64 0 0] 29)) _ (lt_of_heap he1)).trans he1) hu.size (heap_alloc_last u (.cells #[.int .u64 0, .int .u64 0, .int .u64 0, .int .u64 0, .int .u64 0, .int .u64 0, .int .u64 0, .int .u64 0, .int .u64 0, .int .u64 0, .complex .f64 0 0] 29)) (Nat.ne_of_lt (lt_of_heap he1))
        rw [hR] at hnx
        exact reL (by kernel_rfl) hnx
      refine AllReadyH.cons (i := 11) rfl (fun K hK => ?_) ?_
      · try simp only [List.getElem_toArray, List.getElem_cons_zero, List.getElem_cons_succ]
        go_simp
        refine hK.out _ _ (hu.alloc (.cells #[.int .u64 0, .int .u64 0, .int .u64 0, .int .u64 0, .int .u64 0, .int .u64 0, .int .u64 0, .int .u64 0, .int .u64 0, .int .u64 0, .complex .f64 0 0] 29)) (fun hHeld => ?_)
        clear hK K
        try simp only [Act.put, List.setIfInBounds_toArray, List.set_cons_zero, List.set_cons_succ, List.getElem_toArray, List.getElem_cons_zero, List.getElem_cons_succ]
        have hnx := H1_13 (u.alloc (.cells #[.int .u64 0, .int .u64 0, .int .u64 0, .int .u64 0, .int .u64 0, .int .u64 0, .int .u64 0, .int .u64 0, .int .u64 0, .int .u64 0, .complex .f64 0 0] 29)) g1 u.heap.size (hu.alloc (.cells #[.int .u64 0, .int .u64 0, .int .u64 0, .int .u64 0, .int .u64 0, .int .u64 0, .int .u64 0, .int .u64 0, .int .u64 0, .int .u64 0, .complex .f64 0 0] 29)) hw1 ((Below.block ((Later.refl u).alloc (.cells #[.int .u64 0, .int .u64 0, .int .u64 0, .int .u64 0, .int .u64 0, .int .u64 0, .int .u64 0, .int .u64 0, .int .u64 0, .int .u64 0, .complex .f64 0 0] 29)) _ (lt_of_heap he1)).trans he1) hu.size (heap_alloc_last u (.cells #[.int .u64 0, .int .u64 0, .int .u64 0, .int .u64 0, .int .u64 0, .int .u64 0, .int .u64 0, .int .u64 0, .int .u64 0, .int .u64 0, .complex .f64 0 0] 29)) (Nat.ne_of_lt (lt_of_heap he1))
        rw [hR] at hnx
        exact reL (by kernel_rfl) hnx
      exact AllReadyH.nil
    have H1_2 : ∀ (u : World) (g2 : Nat), Later W u → W.heap.size ≤ g2 → u.heap[g2]? = some (.cells #[.int .u64 0, .int .u64 0, .int .u64 0, .int .u64 0, .int .u64 0, .int .u64 0, .int .u64 0, .int .u64 0, .int .u64 0, .int .u64 0, .complex .f64 0 0] 29 (0, 0)) → R 7 #[true, true, true, true, true, false, true, true, false, false, true, false, false, false, false] { tmps := #[.agg #[.int .u32 (n 0), .int .u32 (n 1), .int .u32 (n 2), .int .u32 (n 3), .int .u32 (n 4), .int .u32 (n 5), .int .u32 (n 6), .int .u32 (n 7), .int .u32 (n 8), .int .u32 (n 9)], .agg #[.int .u32 (m 0), .int .u32 (m 1), .int .u32 (m 2), .int .u32 (m 3), .int .u32 (m 4), .int .u32 (m 5), .int .u32 (m 6), .int .u32 (m 7), .int .u32 (m 8), .int .u32 (m 9)], .agg #[.int .u32 (o 0), .int .u32 (o 1), .int .u32 (o 2), .int .u32 (o 3), .int .u32 (o 4), .int .u32 (o 5), .int .u32 (o 6), .int .u32 (o 7), .int .u32 (o 8), .int .u32 (o 9)], v1, v2, v3, .int .u8 fl, .pointer (some ⟨T, 0, none⟩), .pointer (some ⟨T + 1, 0, none⟩), .pointer (some ⟨T + 1 + 1, 0, none⟩), undef, undef, undef, undef, .bool false, undef, .pointer (some ⟨g2, 0, none⟩), undef, undef, undef, undef, undef, undef, undef, undef, undef, undef, undef, undef, undef, .agg #[.int .u32 (n 0), .int .u32 (n 1), .int .u32 (n 2), .int .u32 (n 3), .int .u32 (n 4), .int .u32 (n 5), .int .u32 (n 6), .int .u32 (n 7), .int .u32 (n 8), .int .u32 (n 9)], v1, .agg #[.int .u64 (n 0), .int .u64 (n 1), .int .u64 (n 2), .int .u64 (n 3), .int .u64 (n 4), .int .u64 (n 5), .int .u64 (n 6), .int .u64 (n 7), .int .u64 (n 8), .int .u64 (n 9), .complex .f64 A1 B1], .agg #[.int .u32 (m 0), .int .u32 (m 1), .int .u32 (m 2), .int .u32 (m 3), .int .u32 (m 4), .int .u32 (m 5), .int .u32 (m 6), .int .u32 (m 7), .int .u32 (m 8), .int .u32 (m 9)], v2, undef, .agg #[.int .u32 (o 0), .int .u32 (o 1), .int .u32 (o 2), .int .u32 (o 3), .int .u32 (o 4), .int .u32 (o 5), .int .u32 (o 6), .int .u32 (o 7), .int .u32 (o 8), .int .u32 (o 9)], v3, undef, undef, undef, undef, undef, undef, undef, undef, undef, undef, undef, undef, undef, undef, undef, undef, undef, undef, undef, undef, undef, undef, undef, undef, undef, undef, undef, undef, undef, undef, undef, undef, undef, undef, undef, undef, undef, undef, undef, undef, undef, undef, undef, undef, undef, undef, undef, undef, undef, undef, undef, undef, undef, undef, undef, undef, undef, undef, undef, undef, undef, undef, undef, undef, undef, undef, undef, undef, undef, undef, undef, undef, undef, undef, undef, undef, undef, undef, undef, undef, undef, undef, undef, undef, undef, undef, undef, undef, undef, undef, undef, undef, undef, undef, undef, undef, undef, undef], defers := [] } u := by
      intro u g2 hu hw2 he2
      rw [hR]
      refine wpAnyH_ready (rs := [5, 9, 11]) (by kernel_rfl) (by simp) ?_
      refine AllReadyH.cons (i := 5) rfl (fun K hK => ?_) ?_
      · try simp only [List.getElem_toArray, List.getElem_cons_zero, List.getElem_cons_succ]
        rw [if_pos (by rfl)]
        go_simp
        refine (HV2.out u hu).mono ?_
        rintro e u1 ⟨rfl, hq1⟩
        have HL1 := hu.trans hq1
        try simp only []
        refine hK.out _ _ HL1 (fun hHeld => ?_)
        clear hK K
        try simp only [Act.put, List.setIfInBounds_toArray, List.set_cons_zero, List.set_cons_succ, List.getElem_toArray, List.getElem_cons_zero, List.getElem_cons_succ]
        have hnx := H2_2 u1 g2 HL1 hw2 ((Below.block hq1 _ (lt_of_heap he2)).trans he2)
        rw [hR] at hnx
        exact reL (by kernel_rfl) hnx
      refine AllReadyH.cons (i := 9) rfl (fun K hK => ?_) ?_
      · try simp only [List.getElem_toArray, List.getElem_cons_zero, List.getElem_cons_succ]
        go_simp
        refine hK.out _ _ (hu.alloc (.cells #[.int .u64 0, .int .u64 0, .int .u64 0, .int .u64 0, .int .u64 0, .int .u64 0, .int .u64 0, .int .u64 0, .int .u64 0, .int .u64 0, .complex .f64 0 0] 29)) (fun hHeld => ?_)
        clear hK K
        try simp only [Act.put, List.setIfInBounds_toArray, List.set_cons_zero, List.set_cons_succ, List.getElem_toArray, List.getElem_cons_zero, List.getElem_cons_succ]
        have hnx := H1_12 (u.alloc (.cells #[.int .u64 0, .int .u64 0, .int .u64 0, .int .u64 0, .int .u64 0, .int .u64 0, .int .u64 0, .int .u64 0, .int .u64 0, .int .u64 0, .complex .f64 0 0] 29)) u.heap.size g2 (hu.alloc (.cells #[.int .u64 0, .int .u64 0, .int .u64 0, .int .u64 0, .int .u64 0, .int .u64 0, .int .u64 0, .int .u64 0, .int .u64 0, .int .u64 0, .complex .f64 0 0] 29)) hu.size (heap_alloc_last u (.cells #[.int .u64 0, .int .u64 0, .int .u64 0, .int .u64 0, .int .u64 0, .int .u64 0, .int .u64 0, .int .u64 0, .int .u64 0, .int .u64 0, .complex .f64 0 0] 29)) hw2 ((Below.block ((Later.refl u).alloc (.cells #[.int .u64 0, .int .u64 0, .int .u64 0, .int .u64 0, .int .u64 0, .int .u64 0, .int .u64 0, .int .u64 0, .int .u64 0, .int .u64 0, .complex .f64 0 0] 29)) _ (lt_of_heap he2)).trans he2) (Nat.ne_of_gt (lt_of_heap he2))
        rw [hR] at hnx
        exact reL (by kernel_rfl) hnx
      refine AllReadyH.cons (i := 11) rfl (fun K hK => ?_) ?_
      · try simp only [List.getElem_toArray, List.getElem_cons_zero, List.getElem_cons_succ]
        go_simp
        refine hK.out _ _ (hu.alloc (.cells #[.int .u64 0, .int .u64 0, .int .u64 0, .int .u64 0, .int .u64 0, .int .u64 0, .int .u64 0, .int .u64 0, .int .u64 0, .int .u64 0, .complex .f64 0 0] 29)) (fun hHeld => ?_)
        clear hK K
        try simp only [Act.put, List.setIfInBounds_toArray, List.set_cons_zero, List.set_cons_succ, List.getElem_toArray, List.getElem_cons_zero, List.getElem_cons_succ]
        have hnx := H1_23 (u.alloc (.cells #[.int .u64 0, .int .u64 0, .int .u64 0, .int .u64 0, .int .u64 0, .int .u64 0, .int .u64 0, .int .u64 0, .int .u64 0, .int .u64 0, .complex .f64 0 0] 29)) g2 u.heap.size (hu.alloc (.cells #[.int .u64 0, .int .u64 0, .int .u64 0, .int .u64 0, .int .u64 0, .int .u64 0, .int .u64 0, .int .u64 0, .int .u64 0, .int .u64 0, .complex .f64 0 0] 29)) hw2 ((Below.block ((Later.refl u).alloc (.cells #[.int .u64 0, .int .u64 0, .int .u64 0, .int .u64 0, .int .u64 0, .int .u64 0, .int .u64 0, .int .u64 0, .int .u64 0, .int .u64 0, .complex .f64 0 0] 29)) _ (lt_of_heap he2)).trans he2) hu.size (heap_alloc_last u (.cells #[.int .u64 0, .int .u64 0, .int .u64 0, .int .u64 0, .int .u64 0, .int .u64 0, .int .u64 0, .int .u64 0, .int .u64 0, .int .u64 0, .complex .f64 0 0] 29)) (Nat.ne_of_lt (lt_of_heap he2))
        rw [hR] at hnx
        exact reL (by kernel_rfl) hnx
      exact AllReadyH.nil
    have H1_3 : ∀ (u : World) (g3 : Nat), Later W u → W.heap.size ≤ g3 → u.heap[g3]? = some (.cells #[.int .u64 0, .int .u64 0, .int .u64 0, .int .u64 0, .int .u64 0, .int .u64 0, .int .u64 0, .int .u64 0, .int .u64 0, .int .u64 0, .complex .f64 0 0] 29 (0, 0)) → R 7 #[true, true, true, true, true, false, true, true, false, false, false, true, false, false, false] { tmps := #[.agg #[.int .u32 (n 0), .int .u32 (n 1), .int .u32 (n 2), .int .u32 (n 3), .int .u32 (n 4), .int .u32 (n 5), .int .u32 (n 6), .int .u32 (n 7), .int .u32 (n 8), .int .u32 (n 9)], .agg #[.int .u32 (m 0), .int .u32 (m 1), .int .u32 (m 2), .int .u32 (m 3), .int .u32 (m 4), .int .u32 (m 5), .int .u32 (m 6), .int .u32 (m 7), .int .u32 (m 8), .int .u32 (m 9)], .agg #[.int .u32 (o 0), .int .u32 (o 1), .int .u32 (o 2), .int .u32 (o 3), .int .u32 (o 4), .int .u32 (o 5), .int .u32 (o 6), .int .u32 (o 7), .int .u32 (o 8), .int .u32 (o 9)], v1, v2, v3, .int .u8 fl, .pointer (some ⟨T, 0, none⟩), .pointer (some ⟨T + 1, 0, none⟩), .pointer (some ⟨T + 1 + 1, 0, none⟩), undef, undef, undef, undef, .bool false, undef, undef, .pointer (some ⟨g3, 0, none⟩), undef, undef, undef, undef, undef, undef, undef, undef, undef, undef, undef, undef, .agg #[.int .u32 (n 0), .int .u32 (n 1), .int .u32 (n 2), .int .u32 (n 3), .int .u32 (n 4), .int .u32 (n 5), .int .u32 (n 6), .int .u32 (n 7), .int .u32 (n 8), .int .u32 (n 9)], v1, .agg #[.int .u64 (n 0), .int .u64 (n 1), .int .u64 (n 2), .int .u64 (n 3), .int .u64 (n 4), .int .u64 (n 5), .int .u64 (n 6), .int .u64 (n 7), .int .u64 (n 8), .int .u64 (n 9), .complex .f64 A1 B1], .agg #[.int .u32 (m 0), .int .u32 (m 1), .int .u32 (m 2), .int .u32 (m 3), .int .u32 (m 4), .int .u32 (m 5), .int .u32 (m 6), .int .u32 (m 7), .int .u32 (m 8), .int .u32 (m 9)], v2, undef, .agg #[.int .u32 (o 0), .int .u32 (o 1), .int .u32 (o 2), .int .u32 (o 3), .int .u32 (o 4), .int .u32 (o 5), .int .u32 (o 6), .int .u32 (o 7), .int .u32 (o 8), .int .u32 (o 9)], v3, undef, undef, undef, undef, undef, undef, undef, undef, undef, undef, undef, undef, undef, undef, undef, undef, undef, undef, undef, undef, undef, undef, undef, undef, undef, undef, undef, undef, undef, undef, undef, undef, undef, undef, undef, undef, undef, undef, undef, undef, undef, undef, undef, undef, undef, undef, undef, undef, undef, undef, undef, undef, undef, undef, undef, undef, undef, undef, undef, undef, undef, undef, undef, undef, undef, undef, undef, undef, undef, undef, undef, undef, undef, undef, undef, undef, undef, undef, undef, undef, undef, undef, undef, undef, undef, undef, undef, undef, undef, undef, undef, undef, undef, undef, undef, undef, undef, undef], defers := [] } u := by
      intro u g3 hu hw3 he3
      rw [hR]
      refine wpAnyH_ready (rs := [5, 9, 10]) (by kernel_rfl) (by simp) ?_
      refine AllReadyH.cons (i := 5) rfl (fun K hK => ?_) ?_
      · try simp only [List.getElem_toArray, List.getElem_cons_zero, List.getElem_cons_succ]
        rw [if_pos (by rfl)]
        go_simp
        refine (HV2.out u hu).mono ?_
        rintro e u1 ⟨rfl, hq1⟩
        have HL1 := hu.trans hq1
        try simp only []
        refine hK.out _ _ HL1 (fun hHeld => ?_)
        clear hK K
        try simp only [Act.put, List.setIfInBounds_toArray, List.set_cons_zero, List.set_cons_succ, List.getElem_toArray, List.getElem_cons_zero, List.getElem_cons_succ]
        have hnx := H2_3 u1 g3 HL1 hw3 ((Below.block hq1 _ (lt_of_heap he3)).trans he3)
        rw [hR] at hnx
        exact reL (by kernel_rfl) hnx
      refine AllReadyH.cons (i := 9) rfl (fun K hK => ?_) ?_
      · try simp only [List.getElem_toArray, List.getElem_cons_zero, List.getElem_cons_succ]
        go_simp
        refine hK.out _ _ (hu.alloc (.cells #[.int .u64 0, .int .u64 0, .int .u64 0, .int .u64 0, .int .u64 0, .int .u64 0, .int .u64 0, .int .u64 0, .int .u64 0, .int .u64 0, .complex .f64 0 0] 29)) (fun hHeld => ?_)
        clear hK K
        try simp only [Act.put, List.setIfInBounds_toArray, List.set_cons_zero, List.set_cons_succ, List.getElem_toArray, List.getElem_cons_zero, List.getElem_cons_succ]
        have hnx := H1_13 (u.alloc (.cells #[.int .u64 0, .int .u64 0, .int .u64 0, .int .u64 0, .int .u64 0, .int .u64 0, .int .u64 0, .int .u64 0, .int .u64 0, .int .u64 0, .complex .f64 0 0] 29)) u.heap.size g3 (hu.alloc (.cells #[.int .u64 0, .int .u64 0, .int .u64 0, .int .u64 0, .int .u64 0, .int .u64 0, .int .u64 0, .int .u64 0, .int .u64 0, .int .u64 0, .complex .f64 0 0] 29)) hu.size (heap_alloc_last u (.cells #[.int .u64 0, .int .u64 0, .int .u64 0, .int .u64 0, .int .u64 0, .int .u64 0, .int .u64 0, .int .u64 0, .int .u64 0, .int .u64 0, .complex .f64 0 0] 29)) hw3 ((Below.block ((Later.refl u).alloc (.cells #[.int .u64 0, .int .u64 0, .int .u64 0, .int .u64 0, .int .u64 0, .int .u64 0, .int .u64 0, .int .u64 0, .int .u64 0, .int .u64 0, .complex .f64 0 0] 29)) _ (lt_of_heap he3)).trans he3) (Nat.ne_of_gt (lt_of_heap he3))
        rw [hR] at hnx
        exact reL (by kernel_rfl) hnx
      refine AllReadyH.cons (i := 10) rfl (fun K hK => ?_) ?_
      · try simp only [List.getElem_toArray, List.getElem_cons_zero, List.getElem_cons_succ]
        go_simp
        refine hK.out _ _ (hu.alloc (.cells #[.int .u64 0, .int .u64 0, .int .u64 0, .int .u64 0, .int .u64 0, .int .u64 0, .int .u64 0, .int .u64 0, .int .u64 0, .int .u64 0, .complex .f64 0 0] 29)) (fun hHeld => ?_)
        clear hK K
        try simp only [Act.put, List.setIfInBounds_toArray, List.set_cons_zero, List.set_cons_succ, List.getElem_toArray, List.getElem_cons_zero, List.getElem_cons_succ]
        have hnx := H1_23 (u.alloc (.cells #[.int .u64 0, .int .u64 0, .int .u64 0, .int .u64 0, .int .u64 0, .int .u64 0, .int .u64 0, .int .u64 0, .int .u64 0, .int .u64 0, .complex .f64 0 0] 29)) u.heap.size g3 (hu.alloc (.cells #[.int .u64 0, .int .u64 0, .int .u64 0, .int .u64 0, .int .u64 0, .int .u64 0, .int .u64 0, .int .u64 0, .int .u64 0, .int .u64 0, .complex .f64 0 0] 29)) hu.size (heap_alloc_last u (.cells #[.int .u64 0, .int .u64 0, .int .u64 0, .int .u64 0, .int .u64 0, .int .u64 0, .int .u64 0, .int .u64 0, .int .u64 0, .int .u64 0, .complex .f64 0 0] 29)) hw3 ((Below.block ((Later.refl u).alloc (.cells #[.int .u64 0, .int .u64 0, .int .u64 0, .int .u64 0, .int .u64 0, .int .u64 0, .int .u64 0, .int .u64 0, .int .u64 0, .int .u64 0, .complex .f64 0 0] 29)) _ (lt_of_heap he3)).trans he3) (Nat.ne_of_gt (lt_of_heap he3))
        rw [hR] at hnx
        exact reL (by kernel_rfl) hnx
      exact AllReadyH.nil
    have H1_ : ∀ (u : World), Later W u → R 8 #[true, true, true, true, true, false, true, true, false, false, false, false, false, false, false] { tmps := #[.agg #[.int .u32 (n 0), .int .u32 (n 1), .int .u32 (n 2), .int .u32 (n 3), .int .u32 (n 4), .int .u32 (n 5), .int .u32 (n 6), .int .u32 (n 7), .int .u32 (n 8), .int .u32 (n 9)], .agg #[.int .u32 (m 0), .int .u32 (m 1), .int .u32 (m 2), .int .u32 (m 3), .int .u32 (m 4), .int .u32 (m 5), .int .u32 (m 6), .int .u32 (m 7), .int .u32 (m 8), .int .u32 (m 9)], .agg #[.int .u32 (o 0), .int .u32 (o 1), .int .u32 (o 2), .int .u32 (o 3), .int .u32 (o 4), .int .u32 (o 5), .int .u32 (o 6), .int .u32 (o 7), .int .u32 (o 8), .int .u32 (o 9)], v1, v2, v3, .int .u8 fl, .pointer (some ⟨T, 0, none⟩), .pointer (some ⟨T + 1, 0, none⟩), .pointer (some ⟨T + 1 + 1, 0, none⟩), undef, undef, undef, undef, .bool false, undef, undef, undef, undef, undef, undef, undef, undef, undef, undef, undef, undef, undef, undef, undef, .agg #[.int .u32 (n 0), .int .u32 (n 1), .int .u32 (n 2), .int .u32 (n 3), .int .u32 (n 4), .int .u32 (n 5), .int .u32 (n 6), .int .u32 (n 7), .int .u32 (n 8), .int .u32 (n 9)], v1, .agg #[.int .u64 (n 0), .int .u64 (n 1), .int .u64 (n 2), .int .u64 (n 3), .int .u64 (n 4), .int .u64 (n 5), .int .u64 (n 6), .int .u64 (n 7), .int .u64 (n 8), .int .u64 (n 9), .complex .f64 A1 B1], .agg #[.int .u32 (m 0), .int .u32 (m 1), .int .u32 (m 2), .int .u32 (m 3), .int .u32 (m 4), .int .u32 (m 5), .int .u32 (m 6), .int .u32 (m 7), .int .u32 (m 8), .int .u32 (m 9)], v2, undef, .agg #[.int .u32 (o 0), .int .u32 (o 1), .int .u32 (o 2), .int .u32 (o 3), .int .u32 (o 4), .int .u32 (o 5), .int .u32 (o 6), .int .u32 (o 7), .int .u32 (o 8), .int .u32 (o 9)], v3, undef, undef, undef, undef, undef, undef, undef, undef, undef, undef, undef, undef, undef, undef, undef, undef, undef, undef, undef, undef, undef, undef, undef, undef, undef, undef, undef, undef, undef, undef, undef, undef, undef, undef, undef, undef, undef, undef, undef, undef, undef, undef, undef, undef, undef, undef, undef, undef, undef, undef, undef, undef, undef, undef, undef, undef, undef, undef, undef, undef, undef, undef, undef, undef, undef, undef, undef, undef, undef, undef, undef, undef, undef, undef, undef, undef, undef, undef, undef, undef, undef, undef, undef, undef, undef, undef, undef, undef, undef, undef, undef, undef, undef, undef, undef, undef, undef, undef], defers := [] } u := by
      intro u  hu
      rw [hR]
      refine wpAnyH_ready (rs := [5, 9, 10, 11]) (by kernel_rfl) (by simp) ?_
      refine AllReadyH.cons (i := 5) rfl (fun K hK => ?_) ?_
      · try simp only [List.getElem_toArray, List.getElem_cons_zero, List.getElem_cons_succ]
        rw [if_pos (by rfl)]
        go_simp
        refine (HV2.out u hu).mono ?_
        rintro e u1 ⟨rfl, hq1⟩
        have HL1 := hu.trans hq1
        try simp only []
        refine hK.out _ _ HL1 (fun hHeld => ?_)
        clear hK K
        try simp only [Act.put, List.setIfInBounds_toArray, List.set_cons_zero, List.set_cons_succ, List.getElem_toArray, List.getElem_cons_zero, List.getElem_cons_succ]
        have hnx := H2_ u1 HL1
        rw [hR] at hnx
        exact reL (by kernel_rfl) hnx
      refine AllReadyH.cons (i := 9) rfl (fun K hK => ?_) ?_
      · try simp only [List.getElem_toArray, List.getElem_cons_zero, List.getElem_cons_succ]
        go_simp
        refine hK.out _ _ (hu.alloc (.cells #[.int .u64 0, .int .u64 0, .int .u64 0, .int .u64 0, .int .u64 0, .int .u64 0, .int .u64 0, .int .u64 0, .int .u64 0, .int .u64 0, .complex .f64 0 0] 29)) (fun hHeld => ?_)
        clear hK K
        try simp only [Act.put, List.setIfInBounds_toArray, List.set_cons_zero, List.set_cons_succ, List.getElem_toArray, List.getElem_cons_zero, List.getElem_cons_succ]
        have hnx := H1_1 (u.alloc (.cells #[.int .u64 0, .int .u64 0, .int .u64 0, .int .u64 0, .int .u64 0, .int .u64 0, .int .u64 0, .int .u64 0, .int .u64 0, .int .u64 0, .complex .f64 0 0] 29)) u.heap.size (hu.alloc (.cells #[.int .u64 0, .int .u64 0, .int .u64 0, .int .u64 0, .int .u64 0, .int .u64 0, .int .u64 0, .int .u64 0, .int .u64 0, .int .u64 0, .complex .f64 0 0] 29)) hu.size (heap_alloc_last u (.cells #[.int .u64 0, .int .u64 0, .int .u64 0, .int .u64 0, .int .u64 0, .int .u64 0, .int .u64 0, .int .u64 0, .int .u64 0, .int .u64 0, .complex .f64 0 0] 29))
        rw [hR] at hnx
        exact reL (by kernel_rfl) hnx
      refine AllReadyH.cons (i := 10) rfl (fun K hK => ?_) ?_
      · try simp only [List.getElem_toArray, List.getElem_cons_zero, List.getElem_cons_succ]
        go_simp
        refine hK.out _ _ (hu.alloc (.cells #[.int .u64 0, .int .u64 0, .int .u64 0, .int .u64 0, .int .u64 0, .int .u64 0, .int .u64 0, .int .u64 0, .int .u64 0, .int .u64 0, .complex .f64 0 0] 29)) (fun hHeld => ?_)
        clear hK K
        try simp only [Act.put, List.setIfInBounds_toArray, List.set_cons_zero, List.set_cons_succ, List.getElem_toArray, List.getElem_cons_zero, List.getElem_cons_succ]
        have hnx := H1_2 (u.alloc (.cells #[.int .u64 0, .int .u64 0, .int .u64 0, .int .u64 0, .int .u64 0, .int .u64 0, .int .u64 0, .int .u64 0, .int .u64 0, .int .u64 0, .complex .f64 0 0] 29)) u.heap.size (hu.alloc (.cells #[.int .u64 0, .int .u64 0, .int .u64 0, .int .u64 0, .int .u64 0, .int .u64 0, .int .u64 0, .int .u64 0, .int .u64 0, .int .u64 0, .complex .f64 0 0] 29)) hu.size (heap_alloc_last u (.cells #[.int .u64 0, .int .u64 0, .int .u64 0, .int .u64 0, .int .u64 0, .int .u64 0, .int .u64 0, .int .u64 0, .int .u64 0, .int .u64 0, .complex .f64 0 0] 29))
        rw [hR] at hnx
        exact reL (by kernel_rfl) hnx
      refine AllReadyH.cons (i := 11) rfl (fun K hK => ?_) ?_
      · try simp only [List.getElem_toArray, List.getElem_cons_zero, List.getElem_cons_succ]
        go_simp
        refine hK.out _ _ (hu.alloc (.cells #[.int .u64 0, .int .u64 0, .int .u64 0, .int .u64 0, .int .u64 0, .int .u64 0, .int .u64 0, .int .u64 0, .int .u64 0, .int .u64 0, .complex .f64 0 0] 29)) (fun hHeld => ?_)
        clear hK K
        try simp only [Act.put, List.setIfInBounds_toArray, List.set_cons_zero, List.set_cons_succ, List.getElem_toArray, List.getElem_cons_zero, List.getElem_cons_succ]
        have hnx := H1_3 (u.alloc (.cells #[.int .u64 0, .int .u64 0, .int .u64 0, .int .u64 0, .int .u64 0, .int .u64 0, .int .u64 0, .int .u64 0, .int .u64 0, .int .u64 0, .complex .f64 0 0] 29)) u.heap.size (hu.alloc (.cells #[.int .u64 0, .int .u64 0, .int .u64 0, .int .u64 0, .int .u64 0, .int .u64 0, .int .u64 0, .int .u64 0, .int .u64 0, .int .u64 0, .complex .f64 0 0] 29)) hu.size (heap_alloc_last u (.cells #[.int .u64 0, .int .u64 0, .int .u64 0, .int .u64 0, .int .u64 0, .int .u64 0, .int .u64 0, .int .u64 0, .int .u64 0, .int .u64 0, .complex .f64 0 0] 29))
        rw [hR] at hnx
        exact reL (by kernel_rfl) hnx
      exact AllReadyH.nil
    have H0_123 : ∀ (u : World) (g1 g2 g3 : Nat), Later W u → W.heap.size ≤ g1 → u.heap[g1]? = some (.cells #[.int .u64 0, .int .u64 0, .int .u64 0, .int .u64 0, .int .u64 0, .int .u64 0, .int .u64 0, .int .u64 0, .int .u64 0, .int .u64 0, .complex .f64 0 0] 29 (0, 0)) → W.heap.size ≤ g2 → u.heap[g2]? = some (.cells #[.int .u64 0, .int .u64 0, .int .u64 0, .int .u64 0, .int .u64 0, .int .u64 0, .int .u64 0, .int .u64 0, .int .u64 0, .int .u64 0, .complex .f64 0 0] 29 (0, 0)) → W.heap.size ≤ g3 → u.heap[g3]? = some (.cells #[.int .u64 0, .int .u64 0, .int .u64 0, .int .u64 0, .int .u64 0, .int .u64 0, .int .u64 0, .int .u64 0, .int .u64 0, .int .u64 0, .complex .f64 0 0] 29 (0, 0)) → g1 ≠ g2 → g1 ≠ g3 → g2 ≠ g3 → R 6 #[true, true, false, true, true, false, true, true, false, true, true, true, false, false, false] { tmps := #[.agg #[.int .u32 (n 0), .int .u32 (n 1), .int .u32 (n 2), .int .u32 (n 3), .int .u32 (n 4), .int .u32 (n 5), .int .u32 (n 6), .int .u32 (n 7), .int .u32 (n 8), .int .u32 (n 9)], .agg #[.int .u32 (m 0), .int .u32 (m 1), .int .u32 (m 2), .int .u32 (m 3), .int .u32 (m 4), .int .u32 (m 5), .int .u32 (m 6), .int .u32 (m 7), .int .u32 (m 8), .int .u32 (m 9)], .agg #[.int .u32 (o 0), .int .u32 (o 1), .int .u32 (o 2), .int .u32 (o 3), .int .u32 (o 4), .int .u32 (o 5), .int .u32 (o 6), .int .u32 (o 7), .int .u32 (o 8), .int .u32 (o 9)], v1, v2, v3, .int .u8 fl, .pointer (some ⟨T, 0, none⟩), .pointer (some ⟨T + 1, 0, none⟩), .pointer (some ⟨T + 1 + 1, 0, none⟩), undef, undef, undef, undef, .bool false, .pointer (some ⟨g1, 0, none⟩), .pointer (some ⟨g2, 0, none⟩), .pointer (some ⟨g3, 0, none⟩), undef, undef, undef, undef, undef, undef, undef, undef, undef, undef, undef, undef, .agg #[.int .u32 (n 0), .int .u32 (n 1), .int .u32 (n 2), .int .u32 (n 3), .int .u32 (n 4), .int .u32 (n 5), .int .u32 (n 6), .int .u32 (n 7), .int .u32 (n 8), .int .u32 (n 9)], v1, undef, .agg #[.int .u32 (m 0), .int .u32 (m 1), .int .u32 (m 2), .int .u32 (m 3), .int .u32 (m 4), .int .u32 (m 5), .int .u32 (m 6), .int .u32 (m 7), .int .u32 (m 8), .int .u32 (m 9)], v2, undef, .agg #[.int .u32 (o 0), .int .u32 (o 1), .int .u32 (o 2), .int .u32 (o 3), .int .u32 (o 4), .int .u32 (o 5), .int .u32 (o 6), .int .u32 (o 7), .int .u32 (o 8), .int .u32 (o 9)], v3, undef, undef, undef, undef, undef, undef, undef, undef, undef, undef, undef, undef, undef, undef, undef, undef, undef, undef, undef, undef, undef, undef, undef, undef, undef, undef, undef, undef, undef, undef, undef, undef, undef, undef, undef, undef, undef, undef, undef, undef, undef, undef, undef, undef, undef, undef, undef, undef, undef, undef, undef, undef, undef, undef, undef, undef, undef, undef, undef, undef, undef, undef, undef, undef, undef, undef, undef, undef, undef, undef, undef, undef, undef, undef, undef, undef, undef, undef, undef, undef, undef, undef, undef, undef, undef, undef, undef, undef, undef, undef, undef, undef, undef, undef, undef, undef, undef, undef], defers := [] } u := by
      intro u g1 g2 g3 hu hw1 he1 hw2 he2 hw3 he3 hn12 hn13 hn23
      rw [hR]
      refine wpAnyH_ready (rs := [2]) (by kernel_rfl) (by simp) ?_
      refine AllReadyH.cons (i := 2) rfl (fun K hK => ?_) ?_
      · try simp only [List.getElem_toArray, List.getElem_cons_zero, List.getElem_cons_succ]
        rw [if_pos (by rfl)]
        go_simp
        refine (HV1.out u hu).mono ?_
        rintro e u1 ⟨rfl, hq1⟩
        have HL1 := hu.trans hq1
        try simp only []
        refine hK.out _ _ HL1 (fun hHeld => ?_)
        clear hK K
        try simp only [Act.put, List.setIfInBounds_toArray, List.set_cons_zero, List.set_cons_succ, List.getElem_toArray, List.getElem_cons_zero, List.getElem_cons_succ]
        have hnx := H1_123 u1 g1 g2 g3 HL1 hw1 ((Below.block hq1 _ (lt_of_heap he1)).trans he1) hw2 ((Below.block hq1 _ (lt_of_heap he2)).trans he2) hw3 ((Below.block hq1 _ (lt_of_heap he3)).trans he3) hn12 hn13 hn23
        rw [hR] at hnx
        exact reL (by kernel_rfl) hnx
      exact AllReadyH.nil
    have H0_12 : ∀ (u : World) (g1 g2 : Nat), Later W u → W.heap.size ≤ g1 → u.heap[g1]? = some (.cells #[.int .u64 0, .int .u64 0, .int .u64 0, .int .u64 0, .int .u64 0, .int .u64 0, .int .u64 0, .int .u64 0, .int .u64 0, .int .u64 0, .complex .f64 0 0] 29 (0, 0)) → W.heap.size ≤ g2 → u.heap[g2]? = some (.cells #[.int .u64 0, .int .u64 0, .int .u64 0, .int .u64 0, .int .u64 0, .int .u64 0, .int .u64 0, .int .u64 0, .int .u64 0, .int .u64 0, .complex .f64 0 0] 29 (0, 0)) → g1 ≠ g2 → R 7 #[true, true, false, true, true, false, true, true, false, true, true, false, false, false, false] { tmps := #[.agg #[.int .u32 (n 0), .int .u32 (n 1), .int .u32 (n 2), .int .u32 (n 3), .int .u32 (n 4), .int .u32 (n 5), .int .u32 (n 6), .int .u32 (n 7), .int .u32 (n 8), .int .u32 (n 9)], .agg #[.int .u32 (m 0), .int .u32 (m 1), .int .u32 (m 2), .int .u32 (m 3), .int .u32 (m 4), .int .u32 (m 5), .int .u32 (m 6), .int .u32 (m 7), .int .u32 (m 8), .int .u32 (m 9)], .agg #[.int .u32 (o 0), .int .u32 (o 1), .int .u32 (o 2), .int .u32 (o 3), .int .u32 (o 4), .int .u32 (o 5), .int .u32 (o 6), .int .u32 (o 7), .int .u32 (o 8), .int .u32 (o 9)], v1, v2, v3, .int .u8 fl, .pointer (some ⟨T, 0, none⟩), .pointer (some ⟨T + 1, 0, none⟩), .pointer (some ⟨T + 1 + 1, 0, none⟩), undef, undef, undef, undef, .bool false, .pointer (some ⟨g1, 0, none⟩), .pointer (some ⟨g2, 0, none⟩), undef, undef, undef, undef, undef, undef, undef, undef, undef, undef, undef, undef, undef, .agg #[.int .u32 (n 0), .int .u32 (n 1), .int .u32 (n 2), .int .u32 (n 3), .int .u32 (n 4), .int .u32 (n 5), .int .u32 (n 6), .int .u32 (n 7), .int .u32 (n 8), .int .u32 (n 9)], v1, undef, .agg #[.int .u32 (m 0), .int .u32 (m 1), .int .u32 (m 2), .int .u32 (m 3), .int .u32 (m 4), .int .u32 (m 5), .int .u32 (m 6), .int .u32 (m 7), .int .u32 (m 8), .int .u32 (m 9)], v2, undef, .agg #[.int .u32 (o 0), .int .u32 (o 1), .int .u32 (o 2), .int .u32 (o 3), .int .u32 (o 4), .int .u32 (o 5), .int .u32 (o 6), .int .u32 (o 7), .int .u32 (o 8), .int .u32 (o 9)], v3, undef, undef, undef, undef, undef, undef, undef, undef, undef, undef, undef, undef, undef, undef, undef, undef, undef, undef, undef, undef, undef, undef, undef, undef, undef, undef, undef, undef, undef, undef, undef, undef, undef, undef, undef, undef, undef, undef, undef, undef, undef, undef, undef, undef, undef, undef, undef, undef, undef, undef, undef, undef, undef, undef, undef, undef, undef, undef, undef, undef, undef, undef, undef, undef, undef, undef, undef, undef, undef, undef, undef, undef, undef, undef, undef, undef, undef, undef, undef, undef, undef, undef, undef, undef, undef, undef, undef, undef, undef, undef, undef, undef, undef, undef, undef, undef, undef, undef], defers := [] } u := by
      intro u g1 g2 hu hw1 he1 hw2 he2 hn12
      rw [hR]
      refine wpAnyH_ready (rs := [2, 11]) (by kernel_rfl) (by simp) ?_
      refine AllReadyH.cons (i := 2) rfl (fun K hK => ?_) ?_
      · try simp only [List.getElem_toArray, List.getElem_cons_zero, List.getElem_cons_succ]
        rw [if_pos (by rfl)]
        go_simp
        refine (HV1.out u hu).mono ?_
        rintro e u1 ⟨rfl, hq1⟩
        have HL1 := hu.trans hq1
        try simp only []
        refine hK.out _ _ HL1 (fun hHeld => ?_)
        clear hK K
        try simp only [Act.put, List.setIfInBounds_toArray, List.set_cons_zero, List.set_cons_succ, List.getElem_toArray, List.getElem_cons_zero, List.getElem_cons_succ]
        have hnx := H1_12 u1 g1 g2 HL1 hw1 ((Below.block hq1 _ (lt_of_heap he1)).trans he1) hw2 ((Below.block hq1 _ (lt_of_heap he2)).trans he2) hn12
        rw [hR] at hnx
        exact reL (by kernel_rfl) hnx
      refine AllReadyH.cons (i := 11) rfl (fun K hK => ?_) ?_
      · try simp only [List.getElem_toArray, List.getElem_cons_zero, List.getElem_cons_succ]
        go_simp
        refine hK.out _ _ (hu.alloc (.cells #[.int .u64 0, .int .u64 0, .int .u64 0, .int .u64 0, .int .u64 0, .int .u64 0, .int .u64 0, .int .u64 0, .int .u64 0, .int .u64 0, .complex .f64 0 0] 29)) (fun hHeld => ?_)
        clear hK K
        try simp only [Act.put, List.setIfInBounds_toArray, List.set_cons_zero, List.set_cons_succ, List.getElem_toArray, List.getElem_cons_zero, List.getElem_cons_succ]
        have hnx := H0_123 (u.alloc (.cells #[.int .u64 0, .int .u64 0, .int .u64 0, .int .u64 0, .int .u64 0, .int .u64 0, .int .u64 0, .int .u64 0, .int .u64 0, .int .u64 0, .complex .f64 0 0] 29)) g1 g2 u.heap.size (hu.alloc (.cells #[.int .u64 0, .int .u64 0, .int .u64 0, .int .u64 0, .int .u64 0, .int .u64 0, .int .u64 0, .int .u64 0, .int .u64 0, .int .u64 0, .complex .f64 0 0] 29)) hw1 ((Below.block ((Later.refl u).alloc (.cells #[.int .u64 0, .int .u64 0, .int .u64 0, .int .u64 0, .int .u64 0, .int .u64 0, .int .u64 0, .int .u64 0, .int .u64 0, .int .u64 0, .complex .f64 0 0] 29)) _ (lt_of_heap he1)).trans he1) hw2 ((Below.block ((Later.refl u).alloc (.cells #[.int .u64 0, .int .u64 0, .int .u64 0, .int .u64 0, .int .u64 0, .int .u64 0, .int .u64 0, .int .u64 0, .int .u64 0, .int .u64 0, .complex .f64 0 0] 29)) _ (lt_of_heap he2)).trans he2) hu.size (heap_alloc_last u (.cells #[.int .u64 0, .int .u64 0, .int .u64 0, .int .u64 0, .int .u64 0, .int .u64 0, .int .u64 0, .int .u64 0, .int .u64 0, .int .u64 0, .complex .f64 0 0] 29)) hn12 (Nat.ne_of_lt (lt_of_heap he1)) (Nat.ne_of_lt (lt_of_heap he2))
        rw [hR] at hnx
        exact reL (by kernel_rfl) hnx
      exact AllReadyH.nil
    have H0_13 : ∀ (u : World) (g1 g3 : Nat), Later W u → W.heap.size ≤ g1 → u.heap[g1]? = some (.cells #[.int .u64 0, .int .u64 0, .int .u64 0, .int .u64 0, .int .u64 0, .int .u64 0, .int .u64 0, .int .u64 0, .int .u64 0, .int .u64 0, .complex .f64 0 0] 29 (0, 0)) → W.heap.size ≤ g3 → u.heap[g3]? = some (.cells #[.int .u64 0, .int .u64 0, .int .u64 0, .int .u64 0, .int .u64 0, .int .u64 0, .int .u64 0, .int .u64 0, .int .u64 0, .int .u64 0, .complex .f64 0 0] 29 (0, 0)) → g1 ≠ g3 → R 7 #[true, true, false, true, true, false, true, true, false, true, false, true, false, false, false] { tmps := #[.agg #[.int .u32 (n 0), .int .u32 (n 1), .int .u32 (n 2), .int .u32 (n 3), .int .u32 (n 4), .int .u32 (n 5), .int .u32 (n 6), .int .u32 (n 7), .int .u32 (n 8), .int .u32 (n 9)], .agg #[.int .u32 (m 0), .int .u32 (m 1), .int .u32 (m 2), .int .u32 (m 3), .int .u32 (m 4), .int .u32 (m 5), .int .u32 (m 6), .int .u32 (m 7), .int .u32 (m 8), .int .u32 (m 9)], .agg #[.int .u32 (o 0), .int .u32 (o 1), .int .u32 (o 2), .int .u32 (o 3), .int .u32 (o 4), .int .u32 (o 5), .int .u32 (o 6), .int .u32 (o 7), .int .u32 (o 8), .int .u32 (o 9)], v1, v2, v3, .int .u8 fl, .pointer (some ⟨T, 0, none⟩), .pointer (some ⟨T + 1, 0, none⟩), .pointer (some ⟨T + 1 + 1, 0, none⟩), undef, undef, undef, undef, .bool false, .pointer (some ⟨g1, 0, none⟩), undef, .pointer (some ⟨g3, 0, none⟩), undef, undef, undef, undef, undef, undef, undef, undef, undef, undef, undef, undef, .agg #[.int .u32 (n 0), .int .u32 (n 1), .int .u32 (n 2), .int .u32 (n 3), .int .u32 (n 4), .int .u32 (n 5), .int .u32 (n 6), .int .u32 (n 7), .int .u32 (n 8), .int .u32 (n 9)], v1, undef, .agg #[.int .u32 (m 0), .int .u32 (m 1), .int .u32 (m 2), .int .u32 (m 3), .int .u32 (m 4), .int .u32 (m 5), .int .u32 (m 6), .int .u32 (m 7), .int .u32 (m 8), .int .u32 (m 9)], v2, undef, .agg #[.int .u32 (o 0), .int .u32 (o 1), .int .u32 (o 2), .int .u32 (o 3), .int .u32 (o 4), .int .u32 (o 5), .int .u32 (o 6), .int .u32 (o 7), .int .u32 (o 8), .int .u32 (o 9)], v3, undef, undef, undef, undef, undef, undef, undef, undef, undef, undef, undef, undef, undef, undef, undef, undef, undef, undef, undef, undef, undef, undef, undef, undef, undef, undef, undef, undef, undef, undef, undef, undef, undef, undef, undef, undef, undef, undef, undef, undef, undef, undef, undef, undef, undef, undef, undef, undef, undef, undef, undef, undef, undef, undef, undef, undef, undef, undef, undef, undef, undef, undef, undef, undef, undef, undef, undef, undef, undef, undef, undef, undef, undef, undef, undef, undef, undef, undef, undef, undef, undef, undef, undef, undef, undef, undef, undef, undef, undef, undef, undef, undef, undef, undef, undef, undef, undef, undef], defers := [] } u := by
      intro u g1 g3 hu hw1 he1 hw3 he3 hn13
      rw [hR]
      refine wpAnyH_ready (rs := [2, 10]) (by kernel_rfl) (by simp) ?_
      refine AllReadyH.cons (i := 2) rfl (fun K hK => ?_) ?_
      · try simp only [List.getElem_toArray, List.getElem_cons_zero, List.getElem_cons_succ]
        rw [if_pos (by rfl)]
        go_simp
        refine (HV1.out u hu).mono ?_
        rintro e u1 ⟨rfl, hq1⟩
        have HL1 := hu.trans hq1
        try simp only []
        refine hK.out _ _ HL1 (fun hHeld => ?_)
        clear hK K
        try simp only [Act.put, List.setIfInBounds_toArray, List.set_cons_zero, List.set_cons_succ, List.getElem_toArray, List.getElem_cons_zero, List.getElem_cons_succ]
        have hnx := H1_13 u1 g1 g3 HL1 hw1 ((Below.block hq1 _ (lt_of_heap he1)).trans he1) hw3 ((Below.block hq1 _ (lt_of_heap he3)).trans he3) hn13
        rw [hR] at hnx
        exact reL (by kernel_rfl) hnx
      refine AllReadyH.cons (i := 10) rfl (fun K hK => ?_) ?_
      · try simp only [List.getElem_toArray, List.getElem_cons_zero, List.getElem_cons_succ]
        go_simp
        refine hK.out _ _ (hu.alloc (.cells #[.int .u64 0, .int .u64 0, .int .u64 0, .int .u64 0, .int .u64 0, .int .u64 0, .int .u64 0, .int .u64 0, .int .u64 0, .int .u64 0, .complex .f64 0 0] 29)) (fun hHeld => ?_)
        clear hK K
        try simp only [Act.put, List.setIfInBounds_toArray, List.set_cons_zero, List.set_cons_succ, List.getElem_toArray, List.getElem_cons_zero, List.getElem_cons_succ]
        have hnx := H0_123 (u.alloc (.cells #[.int .u64 0, .int .u64 0, .int .u64 0, .int .u64 0, .int .u64 0, .int .u64 0, .int .u64 0, .int .u64 0, .int .u64 0, .int .u64 0, .complex .f64 0 0] 29)) g1 u.heap.size g3 (hu.alloc (.cells #[.int .u64 0, .int .u64 0, .int .u64 0, .int .u64 0, .int .u64 0, .int .u64 0, .int .u64 0, .int .u64 0, .int .u64 0, .int .u64 0, .complex .f64 0 0] 29)) hw1 ((Below.block ((Later.refl u).alloc (.cells #[.int .u64 0, .int .u64 0, .int .u64 0, .int .u64 0, .int .u64 0, .int .u64 0, .int .u64 0, .int .u64 0, .int .u64 0, .int .u64 0, .complex .f64 0 0] 29)) _ (lt_of_heap he1)).trans he1) hu.size (heap_alloc_last u (.cells #[.int .u64 0, .int .u64 0, .int .u64 0, .int .u64 0, .int .u64 0, .int .u64 0, .int .u64 0, .int .u64 0, .int .u64 0, .int .u64 0, .complex .f64 0 0] 29)) hw3 ((Below.block ((Later.refl u).alloc (.cells #[.int .u64 0, .int .u64 0, .int .u64 0, .int .u64 0, .int .u64 0, .int .u64 0, .int .u64 0, .int .u64 0, .int .u64 0, .int .u64 0, .complex .f64 0 0] 29)) _ (lt_of_heap he3)).trans he3) (Nat.ne_of_lt (lt_of_heap he1)) hn13 (Nat.ne_of_gt (lt_of_heap he3))
        rw [hR] at hnx
        exact reL (by kernel_rfl) hnx
      exact AllReadyH.nil
    have H0_23 : ∀ (u : World) (g2 g3 : Nat), Later W u → W.heap.size ≤ g2 → u.heap[g2]? = some (.cells #[.int .u64 0, .int .u64 0, .int .u64 0, .int .u64 0, .int .u64 0, .int .u64 0, .int .u64 0, .int .u64 0, .int .u64 0, .int .u64 0, .complex .f64 0 0] 29 (0, 0)) → W.heap.size ≤ g3 → u.heap[g3]? = some (.cells #[.int .u64 0, .int .u64 0, .int .u64 0, .int .u64 0, .int .u64 0, .int .u64 0, .int .u64 0, .int .u64 0, .int .u64 0, .int .u64 0, .complex .f64 0 0] 29 (0, 0)) → g2 ≠ g3 → R 7 #[true, true, false, true, true, false, true, true, false, false, true, true, false, false, false] { tmps := #[.agg #[.int .u32 (n 0), .int .u32 (n 1), .int .u32 (n 2), .int .u32 (n 3), .int .u32 (n 4), .int .u32 (n 5), .int .u32 (n 6), .int .u32 (n 7), .int .u32 (n 8), .int .u32 (n 9)], .agg #[.int .u32 (m 0), .int .u32 (m 1), .int .u32 (m 2), .int .u32 (m 3), .int .u32 (m 4), .int .u32 (m 5), .int .u32 (m 6), .int .u32 (m 7), .int .u32 (m 8), .int .u32 (m 9)], .agg #[.int .u32 (o 0), .int .u32 (o 1), .int .u32 (o 2), .int .u32 (o 3), .int .u32 (o 4), .int .u32 (o 5), .int .u32 (o 6), .int .u32 (o 7), .int .u32 (o 8), .int .u32 (o 9)], v1, v2, v3, .int .u8 fl, .pointer (some ⟨T, 0, none⟩), .pointer (some ⟨T + 1, 0, none⟩), .pointer (some ⟨T + 1 + 1, 0, none⟩), undef, undef, undef, undef, .bool false, undef, .pointer (some ⟨g2, 0, none⟩), .pointer (some ⟨g3, 0, none⟩), undef, undef, undef, undef, undef, undef, undef, undef, undef, undef, undef, undef, .agg #[.int .u32 (n 0), .int .u32 (n 1), .int .u32 (n 2), .int .u32 (n 3), .int .u32 (n 4), .int .u32 (n 5), .int .u32 (n 6), .int .u32 (n 7), .int .u32 (n 8), .int .u32 (n 9)], v1, undef, .agg #[.int .u32 (m 0), .int .u32 (m 1), .int .u32 (m 2), .int .u32 (m 3), .int .u32 (m 4), .int .u32 (m 5), .int .u32 (m 6), .int .u32 (m 7), .int .u32 (m 8), .int .u32 (m 9)], v2, undef, .agg #[.int .u32 (o 0), .int .u32 (o 1), .int .u32 (o 2), .int .u32 (o 3), .int .u32 (o 4), .int .u32 (o 5), .int .u32 (o 6), .int .u32 (o 7), .int .u32 (o 8), .int .u32 (o 9)], v3, undef, undef, undef, undef, undef, undef, undef, undef, undef, undef, undef, undef, undef, undef, undef, undef, undef, undef, undef, undef, undef, undef, undef, undef, undef, undef, undef, undef, undef, undef, undef, undef, undef, undef, undef, undef, undef, undef, undef, undef, undef, undef, undef, undef, undef, undef, undef, undef, undef, undef, undef, undef, undef, undef, undef, undef, undef, undef, undef, undef, undef, undef, undef, undef, undef, undef, undef, undef, undef, undef, undef, undef, undef, undef, undef, undef, undef, undef, undef, undef, undef, undef, undef, undef, undef, undef, undef, undef, undef, undef, undef, undef, undef, undef, undef, undef, undef, undef], defers := [] } u := by
      intro u g2 g3 hu hw2 he2 hw3 he3 hn23
      rw [hR]
      refine wpAnyH_ready (rs := [2, 9]) (by kernel_rfl) (by simp) ?_
      refine AllReadyH.cons (i := 2) rfl (fun K hK => ?_) ?_
      · try simp only [List.getElem_toArray, List.getElem_cons_zero, List.getElem_cons_succ]
        rw [if_pos (by rfl)]
        go_simp
        refine (HV1.out u hu).mono ?_
        rintro e u1 ⟨rfl, hq1⟩
        have HL1 := hu.trans hq1
        try simp only []
        refine hK.out _ _ HL1 (fun hHeld => ?_)
        clear hK K
        try simp only [Act.put, List.setIfInBounds_toArray, List.set_cons_zero, List.set_cons_succ, List.getElem_toArray, List.getElem_cons_zero, List.getElem_cons_succ]
        have hnx := H1_23 u1 g2 g3 HL1 hw2 ((Below.block hq1 _ (lt_of_heap he2)).trans he2) hw3 ((Below.block hq1 _ (lt_of_heap he3)).trans he3) hn23
        rw [hR] at hnx
        exact reL (by kernel_rfl) hnx
      refine AllReadyH.cons (i := 9) rfl (fun K hK => ?_) ?_
      · try simp only [List.getElem_toArray, List.getElem_cons_zero, List.getElem_cons_succ]
        go_simp
        refine hK.out _ _ (hu.alloc (.cells #[.int .u64 0, .int .u64 0, .int .u64 0, .int .u64 0, .int .u64 0, .int .u64 0, .int .u64 0, .int .u64 0, .int .u64 0, .int .u64 0, .complex .f64 0 0] 29)) (fun hHeld => ?_)
        clear hK K
        try simp only [Act.put, List.setIfInBounds_toArray, List.set_cons_zero, List.set_cons_succ, List.getElem_toArray, List.getElem_cons_zero, List.getElem_cons_succ]
        have hnx := H0_123 (u.alloc (.cells #[.int .u64 0, .int .u64 0, .int .u64 0, .int .u64 0, .int .u64 0, .int .u64 0, .int .u64 0, .int .u64 0, .int .u64 0, .int .u64 0, .complex .f64 0 0] 29)) u.heap.size g2 g3 (hu.alloc (.cells #[.int .u64 0, .int .u64 0, .int .u64 0, .int .u64 0, .int .u64 0, .int .u64 0, .int .u64 0, .int .u64 0, .int .u64 0, .int .u64 0, .complex .f64 0 0] 29)) hu.size (heap_alloc_last u (.cells #[.int .u64 0, .int .u64 0, .int .u64 0, .int .u64 0, .int .u64 0, .int .u64 0, .int .u64 0, .int .u64 0, .int .u64 0, .int .u64 0, .complex .f64 0 0] 29)) hw2 ((Below.block ((Later.refl u).alloc (.cells #[.int .u64 0, .int .u64 0, .int .u64 0, .int .u64 0, .int .u64 0, .int .u64 0, .int .u64 0, .int .u64 0, .int .u64 0, .int .u64 0, .complex .f64 0 0] 29)) _ (lt_of_heap he2)).trans he2) hw3 ((Below.block ((Later.refl u).alloc (.cells #[.int .u64 0, .int .u64 0, .int .u64 0, .int .u64 0, .int .u64 0, .int .u64 0, .int .u64 0, .int .u64 0, .int .u64 0, .int .u64 0, .complex .f64 0 0] 29)) _ (lt_of_heap he3)).trans he3) (Nat.ne_of_gt (lt_of_heap he2)) (Nat.ne_of_gt (lt_of_heap he3)) hn23
        rw [hR] at hnx
        exact reL (by kernel_rfl) hnx
      exact AllReadyH.nil
    have H0_1 : ∀ (u : World) (g1 : Nat), Later W u → W.heap.size ≤ g1 → u.heap[g1]? = some (.cells #[.int .u64 0, .int .u64 0, .int .u64 0, .int .u64 0, .int .u64 0, .int .u64 0, .int .u64 0, .int .u64 0, .int .u64 0, .int .u64 0, .complex .f64 0 0] 29 (0, 0)) → R 8 #[true, true, false, true, true, false, true, true, false, true, false, false, false, false, false] { tmps := #[.agg #[.int .u32 (n 0), .int .u32 (n 1), .int .u32 (n 2), .int .u32 (n 3), .int .u32 (n 4), .int .u32 (n 5), .int .u32 (n 6), .int .u32 (n 7), .int .u32 (n 8), .int .u32 (n 9)], .agg #[.int .u32 (m 0), .int .u32 (m 1), .int .u32 (m 2), .int .u32 (m 3), .int .u32 (m 4), .int .u32 (m 5), .int .u32 (m 6), .int .u32 (m 7), .int .u32 (m 8), .int .u32 (m 9)], .agg #[.int .u32 (o 0), .int .u32 (o 1), .int .u32 (o 2), .int .u32 (o 3), .int .u32 (o 4), .int .u32 (o 5), .int .u32 (o 6), .int .u32 (o 7), .int .u32 (o 8), .int .u32 (o 9)], v1, v2, v3, .int .u8 fl, .pointer (some ⟨T, 0, none⟩), .pointer (some ⟨T + 1, 0, none⟩), .pointer (some ⟨T + 1 + 1, 0, none⟩), undef, undef, undef, undef, .bool false, .pointer (some ⟨g1, 0, none⟩), undef, undef, undef, undef, undef, undef, undef, undef, undef, undef, undef, undef, undef, undef, .agg #[.int .u32 (n 0), .int .u32 (n 1), .int .u32 (n 2), .int .u32 (n 3), .int .u32 (n 4), .int .u32 (n 5), .int .u32 (n 6), .int .u32 (n 7), .int .u32 (n 8), .int .u32 (n 9)], v1, undef, .agg #[.int .u32 (m 0), .int .u32 (m 1), .int .u32 (m 2), .int .u32 (m 3), .int .u32 (m 4), .int .u32 (m 5), .int .u32 (m 6), .int .u32 (m 7), .int .u32 (m 8), .int .u32 (m 9)], v2, undef, .agg #[.int .u32 (o 0), .int .u32 (o 1), .int .u32 (o 2), .int .u32 (o 3), .int .u32 (o 4), .int .u32 (o 5), .int .u32 (o 6), .int .u32 (o 7), .int .u32 (o 8), .int .u32 (o 9)], v3, undef, undef, undef, undef, undef, undef, undef, undef, undef, undef, undef, undef, undef, undef, undef, undef, undef, undef, undef, undef, undef, undef, undef, undef, undef, undef, undef, undef, undef, undef, undef, undef, undef, undef, undef, undef, undef, undef, undef, undef, undef, undef, undef, undef, undef, undef, undef, undef, undef, undef, undef, undef, undef, undef, undef, undef, undef, undef, undef, undef, undef, undef, undef, undef, undef, undef, undef, undef, undef, undef, undef, undef, undef, undef, undef, undef, undef, undef, undef, undef, undef, undef, undef, undef, undef, undef, undef, undef, undef, undef, undef, undef, undef, undef, undef, undef, undef, undef], defers := [] } u := by
      intro u g1 hu hw1 he1
      rw [hR]
      refine wpAnyH_ready (rs := [2, 10, 11]) (by kernel_rfl) (by simp) ?_
      refine AllReadyH.cons (i := 2) rfl (fun K hK => ?_) ?_
      · try simp only [List.getElem_toArray, List.getElem_cons_zero, List.getElem_cons_succ]
        rw [if_pos (by rfl)]
        go_simp
        refine (HV1.out u hu).mono ?_
        rintro e u1 ⟨rfl, hq1⟩
        have HL1 := hu.trans hq1
        try simp only []
        refine hK.out _ _ HL1 (fun hHeld => ?_)
        clear hK K
        try simp only [Act.put, List.setIfInBounds_toArray, List.set_cons_zero, List.set_cons_succ, List.getElem_toArray, List.getElem_cons_zero, List.getElem_cons_succ]
        have hnx := H1_1 u1 g1 HL1 hw1 ((Below.block hq1 _ (lt_of_heap he1)).trans he1)
        rw [hR] at hnx
        exact reL (by kernel_rfl) hnx
      refine AllReadyH.cons (i := 10) rfl (fun K hK => ?_) ?_
      · try simp only [List.getElem_toArray, List.getElem_cons_zero, List.getElem_cons_succ]
        go_simp
        refine hK.out _ _ (hu.alloc (.cells #[.int .u64 0, .int .u64 0, .int .u64 0, .int .u64 0, .int .u64 0, .int .u64 0, .int .u64 0, .int .u64 0, .int .u64 0, .int .u64 0, .complex .f64 0 0] 29)) (fun hHeld => ?_)
        clear hK K
        try simp only [Act.put, List.setIfInBounds_toArray, List.set_cons_zero, List.set_cons_succ, List.getElem_toArray, List.getElem_cons_zero, List.getElem_cons_succ]
        have hnx := H0_12 (u.alloc (.cells #[.int .u64 0, .int .u64 0, .int .u64 0, .int .u64 0, .int .u64 0, .int .u64 0, .int .u64 0, .int .u64 0, .int .u64 0, .int .u64 0, .complex .f64 0 0] 29)) g1 u.heap.size (hu.alloc (.cells #[.int .u64 0, .int .u64 0, .int .u64 0, .int .u64 0, .int .u64 0, .int .u64 0, .int .u64 0, .int .u64 0, .int .u64 0, .int .u64 0, .complex .f64 0 0] 29)) hw1 ((Below.block ((Later.refl u).alloc (.cells #[.int .u64 0, .int .u64 0, .int .u64 0, .int .u64 0, .int .u64 0, .int .u64 0, .int .u64 0, .int .u64 0, .int .u64 0, .int .u64 0, .complex .f64 0 0] 29)) _ (lt_of_heap he1)).trans he1) hu.size (heap_alloc_last u (.cells #[.int .u64 0, .int .u64 0, .int .u64 0, .int .u64 0, .int .u64 0, .int .u64 0, .int .u64 0, .int .u64 0, .int .u64 0, .int .u64 0, .complex .f64 0 0] 29)) (Nat.ne_of_lt (lt_of_heap he1))
        rw [hR] at hnx
        exact reL (by kernel_rfl) hnx
      refine AllReadyH.cons (i := 11) rfl (fun K hK => ?_) ?_
      · try simp only [List.getElem_toArray, List.getElem_cons_zero, List.getElem_cons_succ]
        go_simp
        refine hK.out _ _ (hu.alloc (.cells #[.int .u64 0, .int .u64 0, .int .u64 0, .int .u64 0, .int .u64 0, .int .u64 0, .int .u64 0, .int .u64 0, .int .u64 0, .int .u64 0, .complex .f64 0 0] 29)) (fun hHeld => ?_)
        clear hK K
        try simp only [Act.put, List.setIfInBounds_toArray, List.set_cons_zero, List.set_cons_succ, List.getElem_toArray, List.getElem_cons_zero, List.getElem_cons_succ]
        have hnx := H0_13 (u.alloc (.cells #[.int .u64 0, .int .u64 0, .int .u64 0, .int .u64 0, .int .u64 0, .int .u64 0, .int .u64 0, .int .u64 0, .int .u64 0, .int .u64 0, .complex .f64 0 0] 29)) g1 u.heap.size (hu.alloc (.cells #[.int .u64 0, .int .u64 0, .int .u64 0, .int .u64 0, .int .u64 0, .int .u64 0, .int .u64 0, .int .u64 0, .int .u64 0, .int .u64 0, .complex .f64 0 0] 29)) hw1 ((Below.block ((Later.refl u).alloc (.cells #[.int .u64 0, .int .u64 0, .int .u64 0, .int .u64 0, .int .u64 0, .int .u64 0, .int .u64 0, .int .u64 0, .int .u64 0, .int .u64 0, .complex .f64 0 0] 29)) _ (lt_of_heap he1)).trans he1) hu.size (heap_alloc_last u (.cells #[.int .u64 0, .int .u64 0, .int .u64 0, .int .u64 0, .int .u64 0, .int .u64 0, .int .u64 0, .int .u64 0, .int .u64 0, .int .u64 0, .complex .f64 0 0] 29)) (Nat.ne_of_lt (lt_of_heap he1))
        rw [hR] at hnx
        exact reL (by kernel_rfl) hnx
      exact AllReadyH.nil
    have H0_2 : ∀ (u : World) (g2 : Nat), Later W u → W.heap.size ≤ g2 → u.heap[g2]? = some (.cells #[.int .u64 0, .int .u64 0, .int .u64 0, .int .u64 0, .int .u64 0, .int .u64 0, .int .u64 0, .int .u64 0, .int .u64 0, .int .u64 0, .complex .f64 0 0] 29 (0, 0)) → R 8 #[true, true, false, true, true, false, true, true, false, false, true, false, false, false, false] { tmps := #[.agg #[.int .u32 (n 0), .int .u32 (n 1), .int .u32 (n 2), .int .u32 (n 3), .int .u32 (n 4), .int .u32 (n 5), .int .u32 (n 6), .int .u32 (n 7), .int .u32 (n 8), .int .u32 (n 9)], .agg #[.int .u32 (m 0), .int .u32 (m 1), .int .u32 (m 2), .int .u32 (m 3), .int .u32 (m 4), .int .u32 (m 5), .int .u32 (m 6), .int .u32 (m 7), .int .u32 (m 8), .int .u32 (m 9)], .agg #[.int .u32 (o 0), .int .u32 (o 1), .int .u32 (o 2), .int .u32 (o 3), .int .u32 (o 4), .int .u32 (o 5), .int .u32 (o 6), .int .u32 (o 7), .int .u32 (o 8), .int .u32 (o 9)], v1, v2, v3, .int .u8 fl, .pointer (some ⟨T, 0, none⟩), .pointer (some ⟨T + 1, 0, none⟩), .pointer (some ⟨T + 1 + 1, 0, none⟩), undef, undef, undef, undef, .bool false, undef, .pointer (some ⟨g2, 0, none⟩), undef, undef, undef, undef, undef, undef, undef, undef, undef, undef, undef, undef, undef, .agg #[.int .u32 (n 0), .int .u32 (n 1), .int .u32 (n 2), .int .u32 (n 3), .int .u32 (n 4), .int .u32 (n 5), .int .u32 (n 6), .int .u32 (n 7), .int .u32 (n 8), .int .u32 (n 9)], v1, undef, .agg #[.int .u32 (m 0), .int .u32 (m 1), .int .u32 (m 2), .int .u32 (m 3), .int .u32 (m 4), .int .u32 (m 5), .int .u32 (m 6), .int .u32 (m 7), .int .u32 (m 8), .int .u32 (m 9)], v2, undef, .agg #[.int .u32 (o 0), .int .u32 (o 1), .int .u32 (o 2), .int .u32 (o 3), .int .u32 (o 4), .int .u32 (o 5), .int .u32 (o 6), .int .u32 (o 7), .int .u32 (o 8), .int .u32 (o 9)], v3, undef, undef, undef, undef, undef, undef, undef, undef, undef, undef, undef, undef, undef, undef, undef, undef, undef, undef, undef, undef, undef, undef, undef, undef, undef, undef, undef, undef, undef, undef, undef, undef, undef, undef, undef, undef, undef, undef, undef, undef, undef, undef, undef, undef, undef, undef, undef, undef, undef, undef, undef, undef, undef, undef, undef, undef, undef, undef, undef, undef, undef, undef, undef, undef, undef, undef, undef, undef, undef, undef, undef, undef, undef, undef, undef, undef, undef, undef, undef, undef, undef, undef, undef, undef, undef, undef, undef, undef, undef, undef, undef, undef, undef, undef, undef, undef, undef, undef], defers := [] } u := by
      intro u g2 hu hw2 he2
      rw [hR]
      refine wpAnyH_ready (rs := [2, 9, 11]) (by kernel_rfl) (by simp) ?_
      refine AllReadyH.cons (i := 2) rfl (fun K hK => ?_) ?_
      · try simp only [List.getElem_toArray, List.getElem_cons_zero, List.getElem_cons_succ]
        rw [if_pos (by rfl)]
        go_simp
        refine (HV1.out u hu).mono ?_
        rintro e u1 ⟨rfl, hq1⟩
        have HL1 := hu.trans hq1
        try simp only []
        refine hK.out _ _ HL1 (fun hHeld => ?_)
        clear hK K
        try simp only [Act.put, List.setIfInBounds_toArray, List.set_cons_zero, List.set_cons_succ, List.getElem_toArray, List.getElem_cons_zero, List.getElem_cons_succ]
        have hnx := H1_2 u1 g2 HL1 hw2 ((Below.block hq1 _ (lt_of_heap he2)).trans he2)
        rw [hR] at hnx
        exact reL (by kernel_rfl) hnx
      refine AllReadyH.cons (i := 9) rfl (fun K hK => ?_) ?_
      · try simp only [List.getElem_toArray, List.getElem_cons_zero, List.getElem_cons_succ]
        go_simp
        refine hK.out _ _ (hu.alloc (.cells #[.int .u64 0, .int .u64 0, .int .u64 0, .int .u64 0, .int .u64 0, .int .u64 0, .int .u64 0, .int .u64 0, .int .u64 0, .int .u64 0, .complex .f64 0 0] 29)) (fun hHeld => ?_)
        clear hK K
        try simp only [Act.put, List.setIfInBounds_toArray, List.set_cons_zero, List.set_cons_succ, List.getElem_toArray, List.getElem_cons_zero, List.getElem_cons_succ]
        have hnx := H0_12 (u.alloc (.cells #[.int .u64 0, .int .u64 0, .int .u64 0, .int .u64 0, .int .u64 0, .int .u64 0, .int .u64 0, .int .u64 0, .int .u64 0, .int .u64 0, .complex .f64 0 0] 29)) u.heap.size g2 (hu.alloc (.cells #[.int .u64 0, .int .u64 0, .int .u64 0, .int .u64 0, .int .u64 0, .int .u64 0, .int .u64 0, .int .u64 0, .int .u64 0, .int .u64 0, .complex .f64 0 0] 29)) hu.size (heap_alloc_last u (.cells #[.int .u64 0, .int .u64 0, .int .u64 0, .int .u64 0, .int .u64 0, .int .u64 0, .int .u64 0, .int .u64 0, .int .u64 0, .int .u64 0, .complex .f64 0 0] 29)) hw2 ((Below.block ((Later.refl u).alloc (.cells #[.int .u64 0, .int .u64 0, .int .u64 0, .int .u64 0, .int .u64 0, .int .u64 0, .int .u64 0, .int .u64 0, .int .u64 0, .int .u64 0, .complex .f64 0 0] 29)) _ (lt_of_heap he2)).trans he2) (Nat.ne_of_gt (lt_of_heap he2))
        rw [hR] at hnx
        exact reL (by kernel_rfl) hnx
      refine AllReadyH.cons (i := 11) rfl (fun K hK => ?_) ?_
      · try simp only [List.getElem_toArray, List.getElem_cons_zero, List.getElem_cons_succ]
        go_simp
        refine hK.out _ _ (hu.alloc (.cells #[.int .u64 0, .int .u64 0, .int .u64 0, .int .u64 0, .int .u64 0, .int .u64 0, .int .u64 0, .int .u64 0, .int .u64 0, .int .u64 0, .complex .f64 0 0] 29)) (fun hHeld => ?_)
        clear hK K
        try simp only [Act.put, List.setIfInBounds_toArray, List.set_cons_zero, List.set_cons_succ, List.getElem_toArray, List.getElem_cons_zero, List.getElem_cons_succ]
        have hnx := H0_23 (u.alloc (.cells #[.int .u64 0, .int .u64 0, .int .u64 0, .int .u64 0, .int .u64 0, .int .u64 0, .int .u64 0, .int .u64 0, .int .u64 0, .int .u64 0, .complex .f64 0 0] 29)) g2 u.heap.size (hu.alloc (.cells #[.int .u64 0, .int .u64 0, .int .u64 0, .int .u64 0, .int .u64 0, .int .u64 0, .int .u64 0, .int .u64 0, .int .u64 0, .int .u64 0, .complex .f64 0 0] 29)) hw2 ((Below.block ((Later.refl u).alloc (.cells #[.int .u64 0, .int .u64 0, .int .u64 0, .int .u64 0, .int .u64 0, .int .u64 0, .int .u64 0, .int .u64 0, .int .u64 0, .int .u64 0, .complex .f64 0 0] 29)) _ (lt_of_heap he2)).trans he2) hu.size (heap_alloc_last u (.cells #[.int .u64 0, .int .u64 0, .int .u64 0, .int .u64 0, .int .u64 0, .int .u64 0, .int .u64 0, .int .u64 0, .int .u64 0, .int .u64 0, .complex .f64 0 0] 29)) (Nat.ne_of_lt (lt_of_heap he2))
        rw [hR] at hnx
        exact reL (by kernel_rfl) hnx
      exact AllReadyH.nil
    have H0_3 : ∀ (u : World) (g3 : Nat), Later W u → W.heap.size ≤ g3 → u.heap[g3]? = some (.cells #[.int .u64 0, .int .u64 0, .int .u64 0, .int .u64 0, .int .u64 0, .int .u64 0, .int .u64 0, .int .u64 0, .int .u64 0, .int .u64 0, .complex .f64 0 0] 29 (0, 0)) → R 8 #[true, true, false, true, true, false, true, true, false, false, false, true, false, false, false] { tmps := #[.agg #[.int .u32 (n 0), .int .u32 (n 1), .int .u32 (n 2), .int .u32 (n 3), .int .u32 (n 4), .int .u32 (n 5), .int .u32 (n 6), .int .u32 (n 7), .int .u32 (n 8), .int .u32 (n 9)], .agg #[.int .u32 (m 0), .int .u32 (m 1), .int .u32 (m 2), .int .u32 (m 3), .int .u32 (m 4), .int .u32 (m 5), .int .u32 (m 6), .int .u32 (m 7), .int .u32 (m 8), .int .u32 (m 9)], .agg #[.int .u32 (o 0), .int .u32 (o 1), .int .u32 (o 2), .int .u32 (o 3), .int .u32 (o 4), .int .u32 (o 5), .int .u32 (o 6), .int .u32 (o 7), .int .u32 (o 8), .int .u32 (o 9)], v1, v2, v3, .int .u8 fl, .pointer (some ⟨T, 0, none⟩), .pointer (some ⟨T + 1, 0, none⟩), .pointer (some ⟨T + 1 + 1, 0, none⟩), undef, undef, undef, undef, .bool false, undef, undef, .pointer (some ⟨g3, 0, none⟩), undef, undef, undef, undef, undef, undef, undef, undef, undef, undef, undef, undef, .agg #[.int .u32 (n 0), .int .u32 (n 1), .int .u32 (n 2), .int .u32 (n 3), .int .u32 (n 4), .int .u32 (n 5), .int .u32 (n 6), .int .u32 (n 7), .int .u32 (n 8), .int .u32 (n 9)], v1, undef, .agg #[.int .u32 (m 0), .int .u32 (m 1), .int .u32 (m 2), .int .u32 (m 3), .int .u32 (m 4), .int .u32 (m 5), .int .u32 (m 6), .int .u32 (m 7), .int .u32 (m 8), .int .u32 (m 9)], v2, undef, .agg #[.int .u32 (o 0), .int .u32 (o 1), .int .u32 (o 2), .int .u32 (o 3), .int .u32 (o 4), .int .u32 (o 5), .int .u32 (o 6), .int .u32 (o 7), .int .u32 (o 8), .int .u32 (o 9)], v3, undef, undef, undef, undef, undef, undef, undef, undef, undef, undef, undef, undef, undef, undef, undef, undef, undef, undef, undef, undef, undef, undef, undef, undef, undef, undef, undef, undef, undef, undef, undef, undef, undef, undef, undef, undef, undef, undef, undef, undef, undef, undef, undef, undef, undef, undef, undef, undef, undef, undef, undef, undef, undef, undef, undef, undef, undef, undef, undef, undef, undef, undef, undef, undef, undef, undef, undef, undef, undef, undef, undef, undef, undef, undef, undef, undef, undef, undef, undef, undef, undef, undef, undef, undef, undef, undef, undef, undef, undef, undef, undef, undef, undef, undef, undef, undef, undef, undef], defers := [] } u := by
      intro u g3 hu hw3 he3
      rw [hR]
      refine wpAnyH_ready (rs := [2, 9, 10]) (by kernel_rfl) (by simp) ?_
      refine AllReadyH.cons (i := 2) rfl (fun K hK => ?_) ?_
      · try simp only [List.getElem_toArray, List.getElem_cons_zero, List.getElem_cons_succ]
        rw [if_pos (by rfl)]
        go_simp
        refine (HV1.out u hu).mono ?_
        rintro e u1 ⟨rfl, hq1⟩
        have HL1 := hu.trans hq1
        try simp only []
        refine hK.out _ _ HL1 (fun hHeld => ?_)
        clear hK K
        try simp only [Act.put, List.setIfInBounds_toArray, List.set_cons_zero, List.set_cons_succ, List.getElem_toArray, List.getElem_cons_zero, List.getElem_cons_succ]
        have hnx := H1_3 u1 g3 HL1 hw3 ((Below.block hq1 _ (lt_of_heap he3)).trans he3)
        rw [hR] at hnx
        exact reL (by kernel_rfl) hnx
      refine AllReadyH.cons (i := 9) rfl (fun K hK => ?_) ?_
      · try simp only [List.getElem_toArray, List.getElem_cons_zero, List.getElem_cons_succ]
        go_simp
        refine hK.out _ _ (hu.alloc (.cells #[.int .u64 0, .int .u64 0, .int .u64 0, .int .u64 0, .int .u64 0, .int .u64 0, .int .u64 0, .int .u64 0, .int .u64 0, .int .u64 0, .complex .f64 0 0] 29)) (fun hHeld => ?_)
        clear hK K
        try simp only [Act.put, List.setIfInBounds_toArray, List.set_cons_zero, List.set_cons_succ, List.getElem_toArray, List.getElem_cons_zero, List.getElem_cons_succ]
        have hnx := H0_13 (u.alloc (.cells #[.int .u64 0, .int .u64 0, .int .u64 0, .int .u64 0, .int .u64 0, .int .u64 0, .int .u64 0, .int .u64 0, .int .u64 0, .int .u64 0, .complex .f64 0 0] 29)) u.heap.size g3 (hu.alloc (.cells #[.int .u64 0, .int .u64 0, .int .u64 0, .int .u64 0, .int .u64 0, .int .u64 0, .int .u64 0, .int .u64 0, .int .u64 0, .int .u64 0, .complex .f64 0 0] 29)) hu.size (heap_alloc_last u (.cells #[.int .u64 0, .int .u64 0, .int .u64 0, .int .u64 0, .int .u64 0, .int .u64 0, .int .u64 0, .int .u64 0, .int .u64 0, .int .u64 0, .complex .f64 0 0] 29)) hw3 ((Below.block ((Later.refl u).alloc (.cells #[.int .u64 0, .int .u64 0, .int .u64 0, .int .u64 0, .int .u64 0, .int .u64 0, .int .u64 0, .int .u64 0, .int .u64 0, .int .u64 0, .complex .f64 0 0] 29)) _ (lt_of_heap he3)).trans he3) (Nat.ne_of_gt (lt_of_heap he3))
        rw [hR] at hnx
        exact reL (by kernel_rfl) hnx
      refine AllReadyH.cons (i := 10) rfl (fun K hK => ?_) ?_
      · try simp only [List.getElem_toArray, List.getElem_cons_zero, List.getElem_cons_succ]
        go_simp
        refine hK.out _ _ (hu.alloc (.cells #[.int .u64 0, .int .u64 0, .int .u64 0, .int .u64 0, .int .u64 0, .int .u64 0, .int .u64 0, .int .u64 0, .int .u64 0, .int .u64 0, .complex .f64 0 0] 29)) (fun hHeld => ?_)
        clear hK K
        try simp only [Act.put, List.setIfInBounds_toArray, List.set_cons_zero, List.set_cons_succ, List.getElem_toArray, List.getElem_cons_zero, List.getElem_cons_succ]
        have hnx := H0_23 (u.alloc (.cells #[.int .u64 0, .int .u64 0, .int .u64 0, .int .u64 0, .int .u64 0, .int .u64 0, .int .u64 0, .int .u64 0, .int .u64 0, .int .u64 0, .complex .f64 0 0] 29)) u.heap.size g3 (hu.alloc (.cells #[.int .u64 0, .int .u64 0, .int .u64 0, .int .u64 0, .int .u64 0, .int .u64 0, .int .u64 0, .int .u64 0, .int .u64 0, .int .u64 0, .complex .f64 0 0] 29)) hu.size (heap_alloc_last u (.cells #[.int .u64 0, .int .u64 0, .int .u64 0, .int .u64 0, .int .u64 0, .int .u64 0, .int .u64 0, .int .u64 0, .int .u64 0, .int .u64 0, .complex .f64 0 0] 29)) hw3 ((Below.block ((Later.refl u).alloc (.cells #[.int .u64 0, .int .u64 0, .int .u64 0, .int .u64 0, .int .u64 0, .int .u64 0, .int .u64 0, .int .u64 0, .int .u64 0, .int .u64 0, .complex .f64 0 0] 29)) _ (lt_of_heap he3)).trans he3) (Nat.ne_of_gt (lt_of_heap he3))
        rw [hR] at hnx
        exact reL (by kernel_rfl) hnx
      exact AllReadyH.nil
    have H0_ : ∀ (u : World), Later W u → R 9 #[true, true, false, true, true, false, true, true, false, false, false, false, false, false, false] { tmps := #[.agg #[.int .u32 (n 0), .int .u32 (n 1), .int .u32 (n 2), .int .u32 (n 3), .int .u32 (n 4), .int .u32 (n 5), .int .u32 (n 6), .int .u32 (n 7), .int .u32 (n 8), .int .u32 (n 9)], .agg #[.int .u32 (m 0), .int .u32 (m 1), .int .u32 (m 2), .int .u32 (m 3), .int .u32 (m 4), .int .u32 (m 5), .int .u32 (m 6), .int .u32 (m 7), .int .u32 (m 8), .int .u32 (m 9)], .agg #[.int .u32 (o 0), .int .u32 (o 1), .int .u32 (o 2), .int .u32 (o 3), .int .u32 (o 4), .int .u32 (o 5), .int .u32 (o 6), .int .u32 (o 7), .int .u32 (o 8), .int .u32 (o 9)], v1, v2, v3, .int .u8 fl, .pointer (some ⟨T, 0, none⟩), .pointer (some ⟨T + 1, 0, none⟩), .pointer (some ⟨T + 1 + 1, 0, none⟩), undef, undef, undef, undef, .bool false, undef, undef, undef, undef, undef, undef, undef, undef, undef, undef, undef, undef, undef, undef, undef, .agg #[.int .u32 (n 0), .int .u32 (n 1), .int .u32 (n 2), .int .u32 (n 3), .int .u32 (n 4), .int .u32 (n 5), .int .u32 (n 6), .int .u32 (n 7), .int .u32 (n 8), .int .u32 (n 9)], v1, undef, .agg #[.int .u32 (m 0), .int .u32 (m 1), .int .u32 (m 2), .int .u32 (m 3), .int .u32 (m 4), .int .u32 (m 5), .int .u32 (m 6), .int .u32 (m 7), .int .u32 (m 8), .int .u32 (m 9)], v2, undef, .agg #[.int .u32 (o 0), .int .u32 (o 1), .int .u32 (o 2), .int .u32 (o 3), .int .u32 (o 4), .int .u32 (o 5), .int .u32 (o 6), .int .u32 (o 7), .int .u32 (o 8), .int .u32 (o 9)], v3, undef, undef, undef, undef, undef, undef, undef, undef, undef, undef, undef, undef, undef, undef, undef, undef, undef, undef, undef, undef, undef, undef, undef, undef, undef, undef, undef, undef, undef, undef, undef, undef, undef, undef, undef, undef, undef, undef, undef, undef, undef, undef, undef, undef, undef, undef, undef, undef, undef, undef, undef, undef, undef, undef, undef, undef, undef, undef, undef, undef, undef, undef, undef, undef, undef, undef, undef, undef, undef, undef, undef, undef, undef, undef, undef, undef, undef, undef, undef, undef, undef, undef, undef, undef, undef, undef, undef, undef, undef, undef, undef, undef, undef, undef, undef, undef, undef, undef], defers := [] } u := by
      intro u  hu
      rw [hR]
      refine wpAnyH_ready (rs := [2, 9, 10, 11]) (by kernel_rfl) (by simp) ?_
      refine AllReadyH.cons (i := 2) rfl (fun K hK => ?_) ?_
      · try simp only [List.getElem_toArray, List.getElem_cons_zero, List.getElem_cons_succ]
        rw [if_pos (by rfl)]
        go_simp
        refine (HV1.out u hu).mono ?_
        rintro e u1 ⟨rfl, hq1⟩
        have HL1 := hu.trans hq1
        try simp only []
        refine hK.out _ _ HL1 (fun hHeld => ?_)
        clear hK K
        try simp only [Act.put, List.setIfInBounds_toArray, List.set_cons_zero, List.set_cons_succ, List.getElem_toArray, List.getElem_cons_zero, List.getElem_cons_succ]
        have hnx := H1_ u1 HL1
        rw [hR] at hnx
        exact reL (by kernel_rfl) hnx
      refine AllReadyH.cons (i := 9) rfl (fun K hK => ?_) ?_
      · try simp only [List.getElem_toArray, List.getElem_cons_zero, List.getElem_cons_succ]
        go_simp
        refine hK.out _ _ (hu.alloc (.cells #[.int .u64 0, .int .u64 0, .int .u64 0, .int .u64 0, .int .u64 0, .int .u64 0, .int .u64 0, .int .u64 0, .int .u64 0, .int .u64 0, .complex .f64 0 0] 29)) (fun hHeld => ?_)
        clear hK K
        try simp only [Act.put, List.setIfInBounds_toArray, List.set_cons_zero, List.set_cons_succ, List.getElem_toArray, List.getElem_cons_zero, List.getElem_cons_succ]
        have hnx := H0_1 (u.alloc (.cells #[.int .u64 0, .int .u64 0, .int .u64 0, .int .u64 0, .int .u64 0, .int .u64 0, .int .u64 0, .int .u64 0, .int .u64 0, .int .u64 0, .complex .f64 0 0] 29)) u.heap.size (hu.alloc (.cells #[.int .u64 0, .int .u64 0, .int .u64 0, .int .u64 0, .int .u64 0, .int .u64 0, .int .u64 0, .int .u64 0, .int .u64 0, .int .u64 0, .complex .f64 0 0] 29)) hu.size (heap_alloc_last u (.cells #[.int .u64 0, .int .u64 0, .int .u64 0, .int .u64 0, .int .u64 0, .int .u64 0, .int .u64 0, .int .u64 0, .int .u64 0, .int .u64 0, .complex .f64 0 0] 29))
        rw [hR] at hnx
        exact reL (by kernel_rfl) hnx
      refine AllReadyH.cons (i := 10) rfl (fun K hK => ?_) ?_
      · try simp only [List.getElem_toArray, List.getElem_cons_zero, List.getElem_cons_succ]
        go_simp
        refine hK.out _ _ (hu.alloc (.cells #[.int .u64 0, .int .u64 0, .int .u64 0, .int .u64 0, .int .u64 0, .int .u64 0, .int .u64 0, .int .u64 0, .int .u64 0, .int .u64 0, .complex .f64 0 0] 29)) (fun hHeld => ?_)
        clear hK K
        try simp only [Act.put, List.setIfInBounds_toArray, List.set_cons_zero, List.set_cons_succ, List.getElem_toArray, List.getElem_cons_zero, List.getElem_cons_succ]
        have hnx := H0_2 (u.alloc (.cells #[.int .u64 0, .int .u64 0, .int .u64 0, .int .u64 0, .int .u64 0, .int .u64 0, .int .u64 0, .int .u64 0, .int .u64 0, .int .u64 0, .complex .f64 0 0] 29)) u.heap.size (hu.alloc (.cells #[.int .u64 0, .int .u64 0, .int .u64 0, .int .u64 0, .int .u64 0, .int .u64 0, .int .u64 0, .int .u64 0, .int .u64 0, .int .u64 0, .complex .f64 0 0] 29)) hu.size (heap_alloc_last u (.cells #[.int .u64 0, .int .u64 0, .int .u64 0, .int .u64 0, .int .u64 0, .int .u64 0, .int .u64 0, .int .u64 0, .int .u64 0, .int .u64 0, .complex .f64 0 0] 29))
        rw [hR] at hnx
        exact reL (by kernel_rfl) hnx
      refine AllReadyH.cons (i := 11) rfl (fun K hK => ?_) ?_
      · try simp only [List.getElem_toArray, List.getElem_cons_zero, List.getElem_cons_succ]
        go_simp
        refine hK.out _ _ (hu.alloc (.cells #[.int .u64 0, .int .u64 0, .int .u64 0, .int .u64 0, .int .u64 0, .int .u64 0, .int .u64 0, .int .u64 0, .int .u64 0, .int .u64 0, .complex .f64 0 0] 29)) (fun hHeld => ?_)
        clear hK K
        try simp only [Act.put, List.setIfInBounds_toArray, List.set_cons_zero, List.set_cons_succ, List.getElem_toArray, List.getElem_cons_zero, List.getElem_cons_succ]
        have hnx := H0_3 (u.alloc (.cells #[.int .u64 0, .int .u64 0, .int .u64 0, .int .u64 0, .int .u64 0, .int .u64 0, .int .u64 0, .int .u64 0, .int .u64 0, .int .u64 0, .complex .f64 0 0] 29)) u.heap.size (hu.alloc (.cells #[.int .u64 0, .int .u64 0, .int .u64 0, .int .u64 0, .int .u64 0, .int .u64 0, .int .u64 0, .int .u64 0, .int .u64 0, .int .u64 0, .complex .f64 0 0] 29)) hu.size (heap_alloc_last u (.cells #[.int .u64 0, .int .u64 0, .int .u64 0, .int .u64 0, .int .u64 0, .int .u64 0, .int .u64 0, .int .u64 0, .int .u64 0, .int .u64 0, .complex .f64 0 0] 29))
        rw [hR] at hnx
        exact reL (by kernel_rfl) hnx
      exact AllReadyH.nil
    have hnx := H0_ W.drew (Later.refl W).drew
    exact hnx
  case rest =>
    obtain ⟨g1, g2, g3, rfl, rfl, rfl, hTh⟩ := hcut
    rename World => w1
    obtain ⟨f, rfl⟩ : ∃ f : Nat, fl = f := ⟨fl.toNat, by omega⟩
    have hmod : (f : Int).tmod 3 = ((f % 3 : Nat) : Int) := by rw [Int.tmod_eq_emod_of_nonneg (by omega)]; omega
    have hf : f ≤ 255 := by omega
    have HT := Lib.hid hTh
    clear hTh hfl
    go_upto_if 41 with fail
    go_cut [14] from 42 to 46 (fun s14 V => s14 = .bool false ∧ ∃ m' : Nat → Int, okX m' ∧ (f % 3 = 1 → m' 3 = 18446744073709551615) ∧ StAt V g1 n A1 B1 ∧ StAt V g2 m' A2 B2 ∧ StAt V g3 o A3 B3 ∧ Later W V)
    case first =>
      obtain ⟨hL, ⟨hw1, hw2, hw3, hn12, hn13, hn23⟩, he1, he2, he3⟩ := HT.out
      by_cases hq : f % 3 = 1
      · have hd1 : (((f % 3 : Nat) : Int) == 1) = true := by simp; omega
        have hd2 : decide (((f % 3 : Nat) : Int) = 1) = true := by simp; omega
        have hd3 : decide (f % 3 = 1) = true := by simpa using hq
        have h2 : StAt w1 g2 m A2 B2 := StAt.of_block he2
        have c3 := h2.2.1 3 (by omega)
        have c0 := h2.2.1 0 (by omega)
        have f3 : w1.frozen? ⟨g2, 3, none⟩ = false := by simp [World.frozen?, he2]
        have f0 : w1.frozen? ⟨g2, 0, none⟩ = false := by simp [World.frozen?, he2]
        have wr1 : IntKind.u64.wrap (f : Int) = (f : Int) := by rw [IntKind.wrap_u64]; omega
        have wr2 : IntKind.u64.wrap (18446744073709551615 - (f : Int)) = 18446744073709551615 - (f : Int) := by rw [IntKind.wrap_u64]; omega
        have HQ := Lib.hid (show StAt ((w1.setCell ⟨g2, 3, none⟩ (.int .u64 18446744073709551615)).setCell ⟨g2, 0, none⟩ (.int .u64 (18446744073709551615 - (f : Int)))) g1 n A1 B1 ∧ StAt ((w1.setCell ⟨g2, 3, none⟩ (.int .u64 18446744073709551615)).setCell ⟨g2, 0, none⟩ (.int .u64 (18446744073709551615 - (f : Int)))) g2 (upd (upd m 3 18446744073709551615) 0 (18446744073709551615 - (f : Int))) A2 B2 ∧ StAt ((w1.setCell ⟨g2, 3, none⟩ (.int .u64 18446744073709551615)).setCell ⟨g2, 0, none⟩ (.int .u64 (18446744073709551615 - (f : Int)))) g3 o A3 B3 ∧ Later W ((w1.setCell ⟨g2, 3, none⟩ (.int .u64 18446744073709551615)).setCell ⟨g2, 0, none⟩ (.int .u64 (18446744073709551615 - (f : Int)))) from
          ⟨((StAt.of_block he1).far g2 3 _ hn12).far g2 0 _ hn12, ((StAt.of_block he2).set 3 (by omega) _).set 0 (by omega) _, ((StAt.of_block he3).far g2 3 _ (Ne.symm hn23)).far g2 0 _ (Ne.symm hn23), (hL.setCell _ _ hw2).setCell _ _ hw2⟩)
        clear he1 he2 he3 h2 hL HT
        go_wp2_with fail
        go_meet
        refine ⟨rfl, _, fun j => ?_, fun _ => ?_, HQ.out⟩
        · have := HN.out.2.1.x j
          unfold upd; split
          · omega
          split <;> omega
        · rfl
      · have hd1 : (((f % 3 : Nat) : Int) == 1) = false := by simp; omega
        have hd2 : decide (((f % 3 : Nat) : Int) = 1) = false := by simp; omega
        have hd3 : decide (f % 3 = 1) = false := by simpa using hq
        have HQ := Lib.hid (show StAt w1 g1 n A1 B1 ∧ StAt w1 g2 m A2 B2 ∧ StAt w1 g3 o A3 B3 ∧ Later W w1 from ⟨StAt.of_block he1, StAt.of_block he2, StAt.of_block he3, hL⟩)
        clear he1 he2 he3 hL HT
        go_wp2_with fail
        go_meet
        exact ⟨rfl, m, HN.out.2.1.x, fun h => absurd h hq, HQ.out⟩
    case rest =>
      obtain ⟨rfl, m', hm', hful, hX2, hY2, hZ2, hL2⟩ := hcut
      rename World => w2
      have HM := Lib.hid (And.intro hm' hful)
      clear hm' hful HT HV1 HV2 HV3
      have kB : g1 < w2.heap.size := hX2.1
      have k0 : w2.cell? ⟨g1, 0, none⟩ = some (.int .u64 (n 0)) := hX2.2.1 0 (by omega)
      have k1 : w2.cell? ⟨g1, 1, none⟩ = some (.int .u64 (n 1)) := hX2.2.1 1 (by omega)
      have k2 : w2.cell? ⟨g1, 2, none⟩ = some (.int .u64 (n 2)) := hX2.2.1 2 (by omega)
      have k3 : w2.cell? ⟨g1, 3, none⟩ = some (.int .u64 (n 3)) := hX2.2.1 3 (by omega)
      have k4 : w2.cell? ⟨g1, 4, none⟩ = some (.int .u64 (n 4)) := hX2.2.1 4 (by omega)
      have k5 : w2.cell? ⟨g1, 5, none⟩ = some (.int .u64 (n 5)) := hX2.2.1 5 (by omega)
      have k6 : w2.cell? ⟨g1, 6, none⟩ = some (.int .u64 (n 6)) := hX2.2.1 6 (by omega)
      have k7 : w2.cell? ⟨g1, 7, none⟩ = some (.int .u64 (n 7)) := hX2.2.1 7 (by omega)
      have k8 : w2.cell? ⟨g1, 8, none⟩ = some (.int .u64 (n 8)) := hX2.2.1 8 (by omega)
      have k9 : w2.cell? ⟨g1, 9, none⟩ = some (.int .u64 (n 9)) := hX2.2.1 9 (by omega)
      have k10 : w2.cell? ⟨g1, 10, none⟩ = some (.complex .f64 A1 B1) := hX2.2.2
      have jB : g2 < w2.heap.size := hY2.1
      have j0 : w2.cell? ⟨g2, 0, none⟩ = some (.int .u64 (m' 0)) := hY2.2.1 0 (by omega)
      have j1 : w2.cell? ⟨g2, 1, none⟩ = some (.int .u64 (m' 1)) := hY2.2.1 1 (by omega)
      have j2 : w2.cell? ⟨g2, 2, none⟩ = some (.int .u64 (m' 2)) := hY2.2.1 2 (by omega)
      have j3 : w2.cell? ⟨g2, 3, none⟩ = some (.int .u64 (m' 3)) := hY2.2.1 3 (by omega)
      have j4 : w2.cell? ⟨g2, 4, none⟩ = some (.int .u64 (m' 4)) := hY2.2.1 4 (by omega)
      have j5 : w2.cell? ⟨g2, 5, none⟩ = some (.int .u64 (m' 5)) := hY2.2.1 5 (by omega)
      have j6 : w2.cell? ⟨g2, 6, none⟩ = some (.int .u64 (m' 6)) := hY2.2.1 6 (by omega)
      have j7 : w2.cell? ⟨g2, 7, none⟩ = some (.int .u64 (m' 7)) := hY2.2.1 7 (by omega)
      have j8 : w2.cell? ⟨g2, 8, none⟩ = some (.int .u64 (m' 8)) := hY2.2.1 8 (by omega)
      have j9 : w2.cell? ⟨g2, 9, none⟩ = some (.int .u64 (m' 9)) := hY2.2.1 9 (by omega)
      have j10 : w2.cell? ⟨g2, 10, none⟩ = some (.complex .f64 A2 B2) := hY2.2.2
      go_wp2_with fail
      clear kB k0 k1 k2 k3 k4 k5 k6 k7 k8 k9 k10 jB j0 j1 j2 j3 j4 j5 j6 j7 j8 j9 j10
      refine (Join_is n m' HN.out.1.x HM.out.1 A1 B1 A2 B2 hA1 hB1 hA2 hB2 _).mono ?_
      rintro e w3 ⟨rfl, hj⟩
      obtain ⟨px, hp⟩ : ∃ q, jnX n m' 10 = q := ⟨_, rfl⟩
      obtain ⟨ax, ha⟩ : ∃ q, max A1 A2 = q := ⟨_, rfl⟩
      obtain ⟨bx, hb⟩ : ∃ q, max B1 B2 = q := ⟨_, rfl⟩
      rw [hp, ha, hb]
      have HRx := Lib.hid (show (jnX n m' 10 = px ∧ max A1 A2 = ax ∧ max B1 B2 = bx) ∧ okX px from ⟨⟨hp, ha, hb⟩, by rw [← hp]; exact HN.out.1.x.jn HM.out.1 10⟩)
      clear hp ha hb
      simp only [statV]
      have hX3 := hX2.later hj
      have hY3 := hY2.later hj
      have hZ3 := hZ2.later hj
      have hL3 := hL2.trans hj
      clear hX2 hY2 hZ2 hL2 hj
      have hax : ax ≤ W2 := by rw [← HRx.out.1.2.1]; exact max_le2 hA1 hA2
      have hbx : bx ≤ W2 := by rw [← HRx.out.1.2.2]; exact max_le2 hB1 hB2
      have kB : g1 < w3.heap.size := hX3.1
      have k0 : w3.cell? ⟨g1, 0, none⟩ = some (.int .u64 (n 0)) := hX3.2.1 0 (by omega)
      have k1 : w3.cell? ⟨g1, 1, none⟩ = some (.int .u64 (n 1)) := hX3.2.1 1 (by omega)
      have k2 : w3.cell? ⟨g1, 2, none⟩ = some (.int .u64 (n 2)) := hX3.2.1 2 (by omega)
      have k3 : w3.cell? ⟨g1, 3, none⟩ = some (.int .u64 (n 3)) := hX3.2.1 3 (by omega)
      have k4 : w3.cell? ⟨g1, 4, none⟩ = some (.int .u64 (n 4)) := hX3.2.1 4 (by omega)
      have k5 : w3.cell? ⟨g1, 5, none⟩ = some (.int .u64 (n 5)) := hX3.2.1 5 (by omega)
      have k6 : w3.cell? ⟨g1, 6, none⟩ = some (.int .u64 (n 6)) := hX3.2.1 6 (by omega)
      have k7 : w3.cell? ⟨g1, 7, none⟩ = some (.int .u64 (n 7)) := hX3.2.1 7 (by omega)
      have k8 : w3.cell? ⟨g1, 8, none⟩ = some (.int .u64 (n 8)) := hX3.2.1 8 (by omega)
      have k9 : w3.cell? ⟨g1, 9, none⟩ = some (.int .u64 (n 9)) := hX3.2.1 9 (by omega)
      have k10 : w3.cell? ⟨g1, 10, none⟩ = some (.complex .f64 A1 B1) := hX3.2.2
      have jB : g2 < w3.heap.size := hY3.1
      have j0 : w3.cell? ⟨g2, 0, none⟩ = some (.int .u64 (m' 0)) := hY3.2.1 0 (by omega)
      have j1 : w3.cell? ⟨g2, 1, none⟩ = some (.int .u64 (m' 1)) := hY3.2.1 1 (by omega)
      have j2 : w3.cell? ⟨g2, 2, none⟩ = some (.int .u64 (m' 2)) := hY3.2.1 2 (by omega)
      have j3 : w3.cell? ⟨g2, 3, none⟩ = some (.int .u64 (m' 3)) := hY3.2.1 3 (by omega)
      have j4 : w3.cell? ⟨g2, 4, none⟩ = some (.int .u64 (m' 4)) := hY3.2.1 4 (by omega)
      have j5 : w3.cell? ⟨g2, 5, none⟩ = some (.int .u64 (m' 5)) := hY3.2.1 5 (by omega)
      have j6 : w3.cell? ⟨g2, 6, none⟩ = some (.int .u64 (m' 6)) := hY3.2.1 6 (by omega)
      have j7 : w3.cell? ⟨g2, 7, none⟩ = some (.int .u64 (m' 7)) := hY3.2.1 7 (by omega)
      have j8 : w3.cell? ⟨g2, 8, none⟩ = some (.int .u64 (m' 8)) := hY3.2.1 8 (by omega)
      have j9 : w3.cell? ⟨g2, 9, none⟩ = some (.int .u64 (m' 9)) := hY3.2.1 9 (by omega)
      have j10 : w3.cell? ⟨g2, 10, none⟩ = some (.complex .f64 A2 B2) := hY3.2.2
      go_wp2_with fail
      clear kB k0 k1 k2 k3 k4 k5 k6 k7 k8 k9 k10 jB j0 j1 j2 j3 j4 j5 j6 j7 j8 j9 j10
      have hNEW : StAt (w3.alloc (.cells #[.int .u64 (px 0), .int .u64 (px 1), .int .u64 (px 2), .int .u64 (px 3), .int .u64 (px 4), .int .u64 (px 5), .int .u64 (px 6), .int .u64 (px 7), .int .u64 (px 8), .int .u64 (px 9), .complex .f64 ax bx] 29)) w3.heap.size px ax bx := StAt.of_block (heap_alloc_last _ _)
      have hAL := (Later.refl w3).alloc (.cells #[.int .u64 (px 0), .int .u64 (px 1), .int .u64 (px 2), .int .u64 (px 3), .int .u64 (px 4), .int .u64 (px 5), .int .u64 (px 6), .int .u64 (px 7), .int .u64 (px 8), .int .u64 (px 9), .complex .f64 ax bx] 29)
      have hX4 := hX3.later hAL
      have hY4 := hY3.later hAL
      have hZ4 := hZ3.later hAL
      have hL4 := hL3.trans hAL
      obtain ⟨w4, hVV⟩ : ∃ V, w3.alloc (.cells #[.int .u64 (px 0), .int .u64 (px 1), .int .u64 (px 2), .int .u64 (px 3), .int .u64 (px 4), .int .u64 (px 5), .int .u64 (px 6), .int .u64 (px 7), .int .u64 (px 8), .int .u64 (px 9), .complex .f64 ax bx] 29) = V := ⟨_, rfl⟩
      obtain ⟨G18, hGG⟩ : ∃ g, w3.heap.size = g := ⟨_, rfl⟩
      rw [hVV, hGG] at hNEW
      rw [hVV] at hX4 hY4 hZ4 hL4
      try rw [hVV]
      try rw [hGG]
      have hP4 := hNEW
      clear hVV hGG hAL hNEW hX3 hY3 hZ3 hL3
      refine (Join_is m' n HM.out.1 HN.out.1.x A2 B2 A1 B1 hA2 hB2 hA1 hB1 _).mono ?_
      rintro e w5 ⟨rfl, hj⟩
      rw [join_comm n m' HN.out.1.x HM.out.1 A1 B1 A2 B2, HRx.out.1.1, HRx.out.1.2.1, HRx.out.1.2.2]
      simp only [statV]
      have hX5 := hX4.later hj
      have hY5 := hY4.later hj
      have hZ5 := hZ4.later hj
      have hP5 := hP4.later hj
      have hL5 := hL4.trans hj
      clear hX4 hY4 hZ4 hP4 hL4 hj
      have kB : g2 < w5.heap.size := hY5.1
      have k0 : w5.cell? ⟨g2, 0, none⟩ = some (.int .u64 (m' 0)) := hY5.2.1 0 (by omega)
      have k1 : w5.cell? ⟨g2, 1, none⟩ = some (.int .u64 (m' 1)) := hY5.2.1 1 (by omega)
      have k2 : w5.cell? ⟨g2, 2, none⟩ = some (.int .u64 (m' 2)) := hY5.2.1 2 (by omega)
      have k3 : w5.cell? ⟨g2, 3, none⟩ = some (.int .u64 (m' 3)) := hY5.2.1 3 (by omega)
      have k4 : w5.cell? ⟨g2, 4, none⟩ = some (.int .u64 (m' 4)) := hY5.2.1 4 (by omega)
      have k5 : w5.cell? ⟨g2, 5, none⟩ = some (.int .u64 (m' 5)) := hY5.2.1 5 (by omega)
      have k6 : w5.cell? ⟨g2, 6, none⟩ = some (.int .u64 (m' 6)) := hY5.2.1 6 (by omega)
      have k7 : w5.cell? ⟨g2, 7, none⟩ = some (.int .u64 (m' 7)) := hY5.2.1 7 (by omega)
      have k8 : w5.cell? ⟨g2, 8, none⟩ = some (.int .u64 (m' 8)) := hY5.2.1 8 (by omega)
      have k9 : w5.cell? ⟨g2, 9, none⟩ = some (.int .u64 (m' 9)) := hY5.2.1 9 (by omega)
      have k10 : w5.cell? ⟨g2, 10, none⟩ = some (.complex .f64 A2 B2) := hY5.2.2
      have jB : g3 < w5.heap.size := hZ5.1
      have j0 : w5.cell? ⟨g3, 0, none⟩ = some (.int .u64 (o 0)) := hZ5.2.1 0 (by omega)
      have j1 : w5.cell? ⟨g3, 1, none⟩ = some (.int .u64 (o 1)) := hZ5.2.1 1 (by omega)
      have j2 : w5.cell? ⟨g3, 2, none⟩ = some (.int .u64 (o 2)) := hZ5.2.1 2 (by omega)
      have j3 : w5.cell? ⟨g3, 3, none⟩ = some (.int .u64 (o 3)) := hZ5.2.1 3 (by omega)
      have j4 : w5.cell? ⟨g3, 4, none⟩ = some (.int .u64 (o 4)) := hZ5.2.1 4 (by omega)
      have j5 : w5.cell? ⟨g3, 5, none⟩ = some (.int .u64 (o 5)) := hZ5.2.1 5 (by omega)
      have j6 : w5.cell? ⟨g3, 6, none⟩ = some (.int .u64 (o 6)) := hZ5.2.1 6 (by omega)
      have j7 : w5.cell? ⟨g3, 7, none⟩ = some (.int .u64 (o 7)) := hZ5.2.1 7 (by omega)
      have j8 : w5.cell? ⟨g3, 8, none⟩ = some (.int .u64 (o 8)) := hZ5.2.1 8 (by omega)
      have j9 : w5.cell? ⟨g3, 9, none⟩ = some (.int .u64 (o 9)) := hZ5.2.1 9 (by omega)
      have j10 : w5.cell? ⟨g3, 10, none⟩ = some (.complex .f64 A3 B3) := hZ5.2.2
      go_wp2_with fail
      clear kB k0 k1 k2 k3 k4 k5 k6 k7 k8 k9 k10 jB j0 j1 j2 j3 j4 j5 j6 j7 j8 j9 j10
      have hNEW : StAt (w5.alloc (.cells #[.int .u64 (px 0), .int .u64 (px 1), .int .u64 (px 2), .int .u64 (px 3), .int .u64 (px 4), .int .u64 (px 5), .int .u64 (px 6), .int .u64 (px 7), .int .u64 (px 8), .int .u64 (px 9), .complex .f64 ax bx] 29)) w5.heap.size px ax bx := StAt.of_block (heap_alloc_last _ _)
      have hAL := (Later.refl w5).alloc (.cells #[.int .u64 (px 0), .int .u64 (px 1), .int .u64 (px 2), .int .u64 (px 3), .int .u64 (px 4), .int .u64 (px 5), .int .u64 (px 6), .int .u64 (px 7), .int .u64 (px 8), .int .u64 (px 9), .complex .f64 ax bx] 29)
      have hX6 := hX5.later hAL
      have hY6 := hY5.later hAL
      have hZ6 := hZ5.later hAL
      have hP6 := hP5.later hAL
      have hL6 := hL5.trans hAL
      obtain ⟨w6, hVV⟩ : ∃ V, w5.alloc (.cells #[.int .u64 (px 0), .int .u64 (px 1), .int .u64 (px 2), .int .u64 (px 3), .int .u64 (px 4), .int .u64 (px 5), .int .u64 (px 6), .int .u64 (px 7), .int .u64 (px 8), .int .u64 (px 9), .complex .f64 ax bx] 29) = V := ⟨_, rfl⟩
      obtain ⟨G20, hGG⟩ : ∃ g, w5.heap.size = g := ⟨_, rfl⟩
      rw [hVV, hGG] at hNEW
      rw [hVV] at hX6 hY6 hZ6 hP6 hL6
      try rw [hVV]
      try rw [hGG]
      have hQ6 := hNEW
      clear hVV hGG hAL hNEW hX5 hY5 hZ5 hP5 hL5
      refine (Join_is m' o HM.out.1 HN.out.2.2.x A2 B2 A3 B3 hA2 hB2 hA3 hB3 _).mono ?_
      rintro e w7 ⟨rfl, hj⟩
      obtain ⟨pw, hp⟩ : ∃ q, jnX m' o 10 = q := ⟨_, rfl⟩
      obtain ⟨aw, ha⟩ : ∃ q, max A2 A3 = q := ⟨_, rfl⟩
      obtain ⟨bw, hb⟩ : ∃ q, max B2 B3 = q := ⟨_, rfl⟩
      rw [hp, ha, hb]
      have HRw := Lib.hid (show (jnX m' o 10 = pw ∧ max A2 A3 = aw ∧ max B2 B3 = bw) ∧ okX pw from ⟨⟨hp, ha, hb⟩, by rw [← hp]; exact HM.out.1.jn HN.out.2.2.x 10⟩)
      clear hp ha hb
      simp only [statV]
      have hX7 := hX6.later hj
      have hZ7 := hZ6.later hj
      have hP7 := hP6.later hj
      have hQ7 := hQ6.later hj
      have hL7 := hL6.trans hj
      clear hX6 hZ6 hP6 hQ6 hL6 hj
      clear hY6
      have haw : aw ≤ W2 := by rw [← HRw.out.1.2.1]; exact max_le2 hA2 hA3
      have hbw : bw ≤ W2 := by rw [← HRw.out.1.2.2]; exact max_le2 hB2 hB3
      have kB : G18 < w7.heap.size := hP7.1
      have k0 : w7.cell? ⟨G18, 0, none⟩ = some (.int .u64 (px 0)) := hP7.2.1 0 (by omega)
      have k1 : w7.cell? ⟨G18, 1, none⟩ = some (.int .u64 (px 1)) := hP7.2.1 1 (by omega)
      have k2 : w7.cell? ⟨G18, 2, none⟩ = some (.int .u64 (px 2)) := hP7.2.1 2 (by omega)
      have k3 : w7.cell? ⟨G18, 3, none⟩ = some (.int .u64 (px 3)) := hP7.2.1 3 (by omega)
      have k4 : w7.cell? ⟨G18, 4, none⟩ = some (.int .u64 (px 4)) := hP7.2.1 4 (by omega)
      have k5 : w7.cell? ⟨G18, 5, none⟩ = some (.int .u64 (px 5)) := hP7.2.1 5 (by omega)
      have k6 : w7.cell? ⟨G18, 6, none⟩ = some (.int .u64 (px 6)) := hP7.2.1 6 (by omega)
      have k7 : w7.cell? ⟨G18, 7, none⟩ = some (.int .u64 (px 7)) := hP7.2.1 7 (by omega)
      have k8 : w7.cell? ⟨G18, 8, none⟩ = some (.int .u64 (px 8)) := hP7.2.1 8 (by omega)
      have k9 : w7.cell? ⟨G18, 9, none⟩ = some (.int .u64 (px 9)) := hP7.2.1 9 (by omega)
      have k10 : w7.cell? ⟨G18, 10, none⟩ = some (.complex .f64 ax bx) := hP7.2.2
      have jB : g3 < w7.heap.size := hZ7.1
      have j0 : w7.cell? ⟨g3, 0, none⟩ = some (.int .u64 (o 0)) := hZ7.2.1 0 (by omega)
      have j1 : w7.cell? ⟨g3, 1, none⟩ = some (.int .u64 (o 1)) := hZ7.2.1 1 (by omega)
      have j2 : w7.cell? ⟨g3, 2, none⟩ = some (.int .u64 (o 2)) := hZ7.2.1 2 (by omega)
      have j3 : w7.cell? ⟨g3, 3, none⟩ = some (.int .u64 (o 3)) := hZ7.2.1 3 (by omega)
      have j4 : w7.cell? ⟨g3, 4, none⟩ = some (.int .u64 (o 4)) := hZ7.2.1 4 (by omega)
      have j5 : w7.cell? ⟨g3, 5, none⟩ = some (.int .u64 (o 5)) := hZ7.2.1 5 (by omega)
      have j6 : w7.cell? ⟨g3, 6, none⟩ = some (.int .u64 (o 6)) := hZ7.2.1 6 (by omega)
      have j7 : w7.cell? ⟨g3, 7, none⟩ = some (.int .u64 (o 7)) := hZ7.2.1 7 (by omega)
      have j8 : w7.cell? ⟨g3, 8, none⟩ = some (.int .u64 (o 8)) := hZ7.2.1 8 (by omega)
      have j9 : w7.cell? ⟨g3, 9, none⟩ = some (.int .u64 (o 9)) := hZ7.2.1 9 (by omega)
      have j10 : w7.cell? ⟨g3, 10, none⟩ = some (.complex .f64 A3 B3) := hZ7.2.2
      go_wp2_with fail
      clear kB k0 k1 k2 k3 k4 k5 k6 k7 k8 k9 k10 jB j0 j1 j2 j3 j4 j5 j6 j7 j8 j9 j10
      have hNEW : StAt (w7.alloc (.cells #[.int .u64 (pw 0), .int .u64 (pw 1), .int .u64 (pw 2), .int .u64 (pw 3), .int .u64 (pw 4), .int .u64 (pw 5), .int .u64 (pw 6), .int .u64 (pw 7), .int .u64 (pw 8), .int .u64 (pw 9), .complex .f64 aw bw] 29)) w7.heap.size pw aw bw := StAt.of_block (heap_alloc_last _ _)
      have hAL := (Later.refl w7).alloc (.cells #[.int .u64 (pw 0), .int .u64 (pw 1), .int .u64 (pw 2), .int .u64 (pw 3), .int .u64 (pw 4), .int .u64 (pw 5), .int .u64 (pw 6), .int .u64 (pw 7), .int .u64 (pw 8), .int .u64 (pw 9), .complex .f64 aw bw] 29)
      have hX8 := hX7.later hAL
      have hP8 := hP7.later hAL
      have hQ8 := hQ7.later hAL
      have hZ8 := hZ7.later hAL
      have hL8 := hL7.trans hAL
      obtain ⟨w8, hVV⟩ : ∃ V, w7.alloc (.cells #[.int .u64 (pw 0), .int .u64 (pw 1), .int .u64 (pw 2), .int .u64 (pw 3), .int .u64 (pw 4), .int .u64 (pw 5), .int .u64 (pw 6), .int .u64 (pw 7), .int .u64 (pw 8), .int .u64 (pw 9), .complex .f64 aw bw] 29) = V := ⟨_, rfl⟩
      obtain ⟨G22, hGG⟩ : ∃ g, w7.heap.size = g := ⟨_, rfl⟩
      rw [hVV, hGG] at hNEW
      rw [hVV] at hX8 hP8 hQ8 hZ8 hL8
      try rw [hVV]
      try rw [hGG]
      have hS8 := hNEW
      clear hVV hGG hAL hNEW hX7 hP7 hQ7 hZ7 hL7
      refine (Join_is px o HRx.out.2 HN.out.2.2.x ax bx A3 B3 hax hbx hA3 hB3 _).mono ?_
      rintro e w9 ⟨rfl, hj⟩
      obtain ⟨pz, hp⟩ : ∃ q, jnX px o 10 = q := ⟨_, rfl⟩
      obtain ⟨az, ha⟩ : ∃ q, max ax A3 = q := ⟨_, rfl⟩
      obtain ⟨bz, hb⟩ : ∃ q, max bx B3 = q := ⟨_, rfl⟩
      rw [hp, ha, hb]
      have HRz := Lib.hid (show (jnX px o 10 = pz ∧ max ax A3 = az ∧ max bx B3 = bz) ∧ okX pz from ⟨⟨hp, ha, hb⟩, by rw [← hp]; exact HRx.out.2.jn HN.out.2.2.x 10⟩)
      clear hp ha hb
      simp only [statV]
      have hX9 := hX8.later hj
      have hP9 := hP8.later hj
      have hQ9 := hQ8.later hj
      have hS9 := hS8.later hj
      have hL9 := hL8.trans hj
      clear hX8 hP8 hQ8 hS8 hL8 hj
      clear hZ8
      have haz : az ≤ W2 := by rw [← HRz.out.1.2.1]; exact max_le2 hax hA3
      have hbz : bz ≤ W2 := by rw [← HRz.out.1.2.2]; exact max_le2 hbx hB3
      have kB : g1 < w9.heap.size := hX9.1
      have k0 : w9.cell? ⟨g1, 0, none⟩ = some (.int .u64 (n 0)) := hX9.2.1 0 (by omega)
      have k1 : w9.cell? ⟨g1, 1, none⟩ = some (.int .u64 (n 1)) := hX9.2.1 1 (by omega)
      have k2 : w9.cell? ⟨g1, 2, none⟩ = some (.int .u64 (n 2)) := hX9.2.1 2 (by omega)
      have k3 : w9.cell? ⟨g1, 3, none⟩ = some (.int .u64 (n 3)) := hX9.2.1 3 (by omega)
      have k4 : w9.cell? ⟨g1, 4, none⟩ = some (.int .u64 (n 4)) := hX9.2.1 4 (by omega)
      have k5 : w9.cell? ⟨g1, 5, none⟩ = some (.int .u64 (n 5)) := hX9.2.1 5 (by omega)
      have k6 : w9.cell? ⟨g1, 6, none⟩ = some (.int .u64 (n 6)) := hX9.2.1 6 (by omega)
      have k7 : w9.cell? ⟨g1, 7, none⟩ = some (.int .u64 (n 7)) := hX9.2.1 7 (by omega)
      have k8 : w9.cell? ⟨g1, 8, none⟩ = some (.int .u64 (n 8)) := hX9.2.1 8 (by omega)
      have k9 : w9.cell? ⟨g1, 9, none⟩ = some (.int .u64 (n 9)) := hX9.2.1 9 (by omega)
      have k10 : w9.cell? ⟨g1, 10, none⟩ = some (.complex .f64 A1 B1) := hX9.2.2
      have jB : G22 < w9.heap.size := hS9.1
      have j0 : w9.cell? ⟨G22, 0, none⟩ = some (.int .u64 (pw 0)) := hS9.2.1 0 (by omega)
      have j1 : w9.cell? ⟨G22, 1, none⟩ = some (.int .u64 (pw 1)) := hS9.2.1 1 (by omega)
      have j2 : w9.cell? ⟨G22, 2, none⟩ = some (.int .u64 (pw 2)) := hS9.2.1 2 (by omega)
      have j3 : w9.cell? ⟨G22, 3, none⟩ = some (.int .u64 (pw 3)) := hS9.2.1 3 (by omega)
      have j4 : w9.cell? ⟨G22, 4, none⟩ = some (.int .u64 (pw 4)) := hS9.2.1 4 (by omega)
      have j5 : w9.cell? ⟨G22, 5, none⟩ = some (.int .u64 (pw 5)) := hS9.2.1 5 (by omega)
      have j6 : w9.cell? ⟨G22, 6, none⟩ = some (.int .u64 (pw 6)) := hS9.2.1 6 (by omega)
      have j7 : w9.cell? ⟨G22, 7, none⟩ = some (.int .u64 (pw 7)) := hS9.2.1 7 (by omega)
      have j8 : w9.cell? ⟨G22, 8, none⟩ = some (.int .u64 (pw 8)) := hS9.2.1 8 (by omega)
      have j9 : w9.cell? ⟨G22, 9, none⟩ = some (.int .u64 (pw 9)) := hS9.2.1 9 (by omega)
      have j10 : w9.cell? ⟨G22, 10, none⟩ = some (.complex .f64 aw bw) := hS9.2.2
      go_wp2_with fail
      clear kB k0 k1 k2 k3 k4 k5 k6 k7 k8 k9 k10 jB j0 j1 j2 j3 j4 j5 j6 j7 j8 j9 j10
      have hNEW : StAt (w9.alloc (.cells #[.int .u64 (pz 0), .int .u64 (pz 1), .int .u64 (pz 2), .int .u64 (pz 3), .int .u64 (pz 4), .int .u64 (pz 5), .int .u64 (pz 6), .int .u64 (pz 7), .int .u64 (pz 8), .int .u64 (pz 9), .complex .f64 az bz] 29)) w9.heap.size pz az bz := StAt.of_block (heap_alloc_last _ _)
      have hAL := (Later.refl w9).alloc (.cells #[.int .u64 (pz 0), .int .u64 (pz 1), .int .u64 (pz 2), .int .u64 (pz 3), .int .u64 (pz 4), .int .u64 (pz 5), .int .u64 (pz 6), .int .u64 (pz 7), .int .u64 (pz 8), .int .u64 (pz 9), .complex .f64 az bz] 29)
      have hX10 := hX9.later hAL
      have hP10 := hP9.later hAL
      have hQ10 := hQ9.later hAL
      have hS10 := hS9.later hAL
      have hL10 := hL9.trans hAL
      obtain ⟨w10, hVV⟩ : ∃ V, w9.alloc (.cells #[.int .u64 (pz 0), .int .u64 (pz 1), .int .u64 (pz 2), .int .u64 (pz 3), .int .u64 (pz 4), .int .u64 (pz 5), .int .u64 (pz 6), .int .u64 (pz 7), .int .u64 (pz 8), .int .u64 (pz 9), .complex .f64 az bz] 29) = V := ⟨_, rfl⟩
      obtain ⟨G24, hGG⟩ : ∃ g, w9.heap.size = g := ⟨_, rfl⟩
      rw [hVV, hGG] at hNEW
      rw [hVV] at hX10 hP10 hQ10 hS10 hL10
      try rw [hVV]
      try rw [hGG]
      have hT10 := hNEW
      clear hVV hGG hAL hNEW hX9 hP9 hQ9 hS9 hL9
      refine (Join_is n pw HN.out.1.x HRw.out.2 A1 B1 aw bw hA1 hB1 haw hbw _).mono ?_
      rintro e w11 ⟨rfl, hj⟩
      have has := join_assoc n m' o HN.out.1.x HM.out.1 HN.out.2.2.x A1 B1 A2 B2 A3 B3
      rw [HRw.out.1.1, HRw.out.1.2.1, HRw.out.1.2.2, HRx.out.1.1, HRx.out.1.2.1, HRx.out.1.2.2, HRz.out.1.1, HRz.out.1.2.1, HRz.out.1.2.2] at has
      rw [has]
      clear has
      simp only [statV]
      have hX11 := hX10.later hj
      have hP11 := hP10.later hj
      have hQ11 := hQ10.later hj
      have hT11 := hT10.later hj
      have hL11 := hL10.trans hj
      clear hX10 hP10 hQ10 hT10 hL10 hj
      clear hS10
      have kB : g1 < w11.heap.size := hX11.1
      have k0 : w11.cell? ⟨g1, 0, none⟩ = some (.int .u64 (n 0)) := hX11.2.1 0 (by omega)
      have k1 : w11.cell? ⟨g1, 1, none⟩ = some (.int .u64 (n 1)) := hX11.2.1 1 (by omega)
      have k2 : w11.cell? ⟨g1, 2, none⟩ = some (.int .u64 (n 2)) := hX11.2.1 2 (by omega)
      have k3 : w11.cell? ⟨g1, 3, none⟩ = some (.int .u64 (n 3)) := hX11.2.1 3 (by omega)
      have k4 : w11.cell? ⟨g1, 4, none⟩ = some (.int .u64 (n 4)) := hX11.2.1 4 (by omega)
      have k5 : w11.cell? ⟨g1, 5, none⟩ = some (.int .u64 (n 5)) := hX11.2.1 5 (by omega)
      have k6 : w11.cell? ⟨g1, 6, none⟩ = some (.int .u64 (n 6)) := hX11.2.1 6 (by omega)
      have k7 : w11.cell? ⟨g1, 7, none⟩ = some (.int .u64 (n 7)) := hX11.2.1 7 (by omega)
      have k8 : w11.cell? ⟨g1, 8, none⟩ = some (.int .u64 (n 8)) := hX11.2.1 8 (by omega)
      have k9 : w11.cell? ⟨g1, 9, none⟩ = some (.int .u64 (n 9)) := hX11.2.1 9 (by omega)
      have k10 : w11.cell? ⟨g1, 10, none⟩ = some (.complex .f64 A1 B1) := hX11.2.2
      go_wp2_with fail
      clear kB k0 k1 k2 k3 k4 k5 k6 k7 k8 k9 k10
      have hNEW : StAt (w11.alloc (.cells #[.int .u64 (pz 0), .int .u64 (pz 1), .int .u64 (pz 2), .int .u64 (pz 3), .int .u64 (pz 4), .int .u64 (pz 5), .int .u64 (pz 6), .int .u64 (pz 7), .int .u64 (pz 8), .int .u64 (pz 9), .complex .f64 az bz] 29)) w11.heap.size pz az bz := StAt.of_block (heap_alloc_last _ _)
      have hAL := (Later.refl w11).alloc (.cells #[.int .u64 (pz 0), .int .u64 (pz 1), .int .u64 (pz 2), .int .u64 (pz 3), .int .u64 (pz 4), .int .u64 (pz 5), .int .u64 (pz 6), .int .u64 (pz 7), .int .u64 (pz 8), .int .u64 (pz 9), .complex .f64 az bz] 29)
      have hX12 := hX11.later hAL
      have hP12 := hP11.later hAL
      have hQ12 := hQ11.later hAL
      have hT12 := hT11.later hAL
      have hL12 := hL11.trans hAL
      obtain ⟨w12, hVV⟩ : ∃ V, w11.alloc (.cells #[.int .u64 (pz 0), .int .u64 (pz 1), .int .u64 (pz 2), .int .u64 (pz 3), .int .u64 (pz 4), .int .u64 (pz 5), .int .u64 (pz 6), .int .u64 (pz 7), .int .u64 (pz 8), .int .u64 (pz 9), .complex .f64 az bz] 29) = V := ⟨_, rfl⟩
      obtain ⟨G26, hGG⟩ : ∃ g, w11.heap.size = g := ⟨_, rfl⟩
      rw [hVV, hGG] at hNEW
      rw [hVV] at hX12 hP12 hQ12 hT12 hL12
      try rw [hVV]
      try rw [hGG]
      have hU12 := hNEW
      clear hVV hGG hAL hNEW hX11 hP11 hQ11 hT11 hL11
      refine (Join_is n (fun _ => 0) HN.out.1.x (fun _ => by simp) A1 B1 0 0 hA1 hB1 (Nat.zero_le _) (Nat.zero_le _) _).mono ?_
      rintro e w13 ⟨rfl, hj⟩
      rw [join_zero n HN.out.1.x]
      simp only [statV]
      have hX13 := hX12.later hj
      have hP13 := hP12.later hj
      have hQ13 := hQ12.later hj
      have hT13 := hT12.later hj
      have hU13 := hU12.later hj
      have hL13 := hL12.trans hj
      clear hX12 hP12 hQ12 hT12 hU12 hL12 hj
      have kaB : G18 < w13.heap.size := hP13.1
      have ka0 : w13.cell? ⟨G18, 0, none⟩ = some (.int .u64 (px 0)) := hP13.2.1 0 (by omega)
      have ka1 : w13.cell? ⟨G18, 1, none⟩ = some (.int .u64 (px 1)) := hP13.2.1 1 (by omega)
      have ka2 : w13.cell? ⟨G18, 2, none⟩ = some (.int .u64 (px 2)) := hP13.2.1 2 (by omega)
      have ka3 : w13.cell? ⟨G18, 3, none⟩ = some (.int .u64 (px 3)) := hP13.2.1 3 (by omega)
      have ka4 : w13.cell? ⟨G18, 4, none⟩ = some (.int .u64 (px 4)) := hP13.2.1 4 (by omega)
      have ka5 : w13.cell? ⟨G18, 5, none⟩ = some (.int .u64 (px 5)) := hP13.2.1 5 (by omega)
      have ka6 : w13.cell? ⟨G18, 6, none⟩ = some (.int .u64 (px 6)) := hP13.2.1 6 (by omega)
      have ka7 : w13.cell? ⟨G18, 7, none⟩ = some (.int .u64 (px 7)) := hP13.2.1 7 (by omega)
      have ka8 : w13.cell? ⟨G18, 8, none⟩ = some (.int .u64 (px 8)) := hP13.2.1 8 (by omega)
      have ka9 : w13.cell? ⟨G18, 9, none⟩ = some (.int .u64 (px 9)) := hP13.2.1 9 (by omega)
      have ka10 : w13.cell? ⟨G18, 10, none⟩ = some (.complex .f64 ax bx) := hP13.2.2
      have kbB : G20 < w13.heap.size := hQ13.1
      have kb0 : w13.cell? ⟨G20, 0, none⟩ = some (.int .u64 (px 0)) := hQ13.2.1 0 (by omega)
      have kb1 : w13.cell? ⟨G20, 1, none⟩ = some (.int .u64 (px 1)) := hQ13.2.1 1 (by omega)
      have kb2 : w13.cell? ⟨G20, 2, none⟩ = some (.int .u64 (px 2)) := hQ13.2.1 2 (by omega)
      have kb3 : w13.cell? ⟨G20, 3, none⟩ = some (.int .u64 (px 3)) := hQ13.2.1 3 (by omega)
      have kb4 : w13.cell? ⟨G20, 4, none⟩ = some (.int .u64 (px 4)) := hQ13.2.1 4 (by omega)
      have kb5 : w13.cell? ⟨G20, 5, none⟩ = some (.int .u64 (px 5)) := hQ13.2.1 5 (by omega)
      have kb6 : w13.cell? ⟨G20, 6, none⟩ = some (.int .u64 (px 6)) := hQ13.2.1 6 (by omega)
      have kb7 : w13.cell? ⟨G20, 7, none⟩ = some (.int .u64 (px 7)) := hQ13.2.1 7 (by omega)
      have kb8 : w13.cell? ⟨G20, 8, none⟩ = some (.int .u64 (px 8)) := hQ13.2.1 8 (by omega)
      have kb9 : w13.cell? ⟨G20, 9, none⟩ = some (.int .u64 (px 9)) := hQ13.2.1 9 (by omega)
      have kb10 : w13.cell? ⟨G20, 10, none⟩ = some (.complex .f64 ax bx) := hQ13.2.2
      have kcB : G24 < w13.heap.size := hT13.1
      have kc0 : w13.cell? ⟨G24, 0, none⟩ = some (.int .u64 (pz 0)) := hT13.2.1 0 (by omega)
      have kc1 : w13.cell? ⟨G24, 1, none⟩ = some (.int .u64 (pz 1)) := hT13.2.1 1 (by omega)
      have kc2 : w13.cell? ⟨G24, 2, none⟩ = some (.int .u64 (pz 2)) := hT13.2.1 2 (by omega)
      have kc3 : w13.cell? ⟨G24, 3, none⟩ = some (.int .u64 (pz 3)) := hT13.2.1 3 (by omega)
      have kc4 : w13.cell? ⟨G24, 4, none⟩ = some (.int .u64 (pz 4)) := hT13.2.1 4 (by omega)
      have kc5 : w13.cell? ⟨G24, 5, none⟩ = some (.int .u64 (pz 5)) := hT13.2.1 5 (by omega)
      have kc6 : w13.cell? ⟨G24, 6, none⟩ = some (.int .u64 (pz 6)) := hT13.2.1 6 (by omega)
      have kc7 : w13.cell? ⟨G24, 7, none⟩ = some (.int .u64 (pz 7)) := hT13.2.1 7 (by omega)
      have kc8 : w13.cell? ⟨G24, 8, none⟩ = some (.int .u64 (pz 8)) := hT13.2.1 8 (by omega)
      have kc9 : w13.cell? ⟨G24, 9, none⟩ = some (.int .u64 (pz 9)) := hT13.2.1 9 (by omega)
      have kc10 : w13.cell? ⟨G24, 10, none⟩ = some (.complex .f64 az bz) := hT13.2.2
      have kdB : G26 < w13.heap.size := hU13.1
      have kd0 : w13.cell? ⟨G26, 0, none⟩ = some (.int .u64 (pz 0)) := hU13.2.1 0 (by omega)
      have kd1 : w13.cell? ⟨G26, 1, none⟩ = some (.int .u64 (pz 1)) := hU13.2.1 1 (by omega)
      have kd2 : w13.cell? ⟨G26, 2, none⟩ = some (.int .u64 (pz 2)) := hU13.2.1 2 (by omega)
      have kd3 : w13.cell? ⟨G26, 3, none⟩ = some (.int .u64 (pz 3)) := hU13.2.1 3 (by omega)
      have kd4 : w13.cell? ⟨G26, 4, none⟩ = some (.int .u64 (pz 4)) := hU13.2.1 4 (by omega)
      have kd5 : w13.cell? ⟨G26, 5, none⟩ = some (.int .u64 (pz 5)) := hU13.2.1 5 (by omega)
      have kd6 : w13.cell? ⟨G26, 6, none⟩ = some (.int .u64 (pz 6)) := hU13.2.1 6 (by omega)
      have kd7 : w13.cell? ⟨G26, 7, none⟩ = some (.int .u64 (pz 7)) := hU13.2.1 7 (by omega)
      have kd8 : w13.cell? ⟨G26, 8, none⟩ = some (.int .u64 (pz 8)) := hU13.2.1 8 (by omega)
      have kd9 : w13.cell? ⟨G26, 9, none⟩ = some (.int .u64 (pz 9)) := hU13.2.1 9 (by omega)
      have kd10 : w13.cell? ⟨G26, 10, none⟩ = some (.complex .f64 az bz) := hU13.2.2
      have keB : g1 < w13.heap.size := hX13.1
      have ke0 : w13.cell? ⟨g1, 0, none⟩ = some (.int .u64 (n 0)) := hX13.2.1 0 (by omega)
      have ke1 : w13.cell? ⟨g1, 1, none⟩ = some (.int .u64 (n 1)) := hX13.2.1 1 (by omega)
      have ke2 : w13.cell? ⟨g1, 2, none⟩ = some (.int .u64 (n 2)) := hX13.2.1 2 (by omega)
      have ke3 : w13.cell? ⟨g1, 3, none⟩ = some (.int .u64 (n 3)) := hX13.2.1 3 (by omega)
      have ke4 : w13.cell? ⟨g1, 4, none⟩ = some (.int .u64 (n 4)) := hX13.2.1 4 (by omega)
      have ke5 : w13.cell? ⟨g1, 5, none⟩ = some (.int .u64 (n 5)) := hX13.2.1 5 (by omega)
      have ke6 : w13.cell? ⟨g1, 6, none⟩ = some (.int .u64 (n 6)) := hX13.2.1 6 (by omega)
      have ke7 : w13.cell? ⟨g1, 7, none⟩ = some (.int .u64 (n 7)) := hX13.2.1 7 (by omega)
      have ke8 : w13.cell? ⟨g1, 8, none⟩ = some (.int .u64 (n 8)) := hX13.2.1 8 (by omega)
      have ke9 : w13.cell? ⟨g1, 9, none⟩ = some (.int .u64 (n 9)) := hX13.2.1 9 (by omega)
      have ke10 : w13.cell? ⟨g1, 10, none⟩ = some (.complex .f64 A1 B1) := hX13.2.2
      have hne1 := neq_stat px ax bx hax hbx
      have hne2 := neq_stat pz az bz haz hbz
      have hne3 := neq_stat n A1 B1 hA1 hB1
      have o1 := order_self ax hax
      have o2 := order_self bx hbx
      have o3 := order_self az haz
      have o4 := order_self bz hbz
      have o5 := order_self A1 hA1
      have o6 := order_self B1 hB1
      go_wp2_with fail
      clear hne1 hne2 hne3 kaB ka0 ka1 ka2 ka3 ka4 ka5 ka6 ka7 ka8 ka9 ka10 kbB kb0 kb1 kb2 kb3 kb4 kb5 kb6 kb7 kb8 kb9 kb10 kcB kc0 kc1 kc2 kc3 kc4 kc5 kc6 kc7 kc8 kc9 kc10 kdB kd0 kd1 kd2 kd3 kd4 kd5 kd6 kd7 kd8 kd9 kd10 keB ke0 ke1 ke2 ke3 ke4 ke5 ke6 ke7 ke8 ke9 ke10
      have hNEW : StAt (w13.alloc (.cells #[.int .u64 (n 0), .int .u64 (n 1), .int .u64 (n 2), .int .u64 (n 3), .int .u64 (n 4), .int .u64 (n 5), .int .u64 (n 6), .int .u64 (n 7), .int .u64 (n 8), .int .u64 (n 9), .complex .f64 A1 B1] 29)) w13.heap.size n A1 B1 := StAt.of_block (heap_alloc_last _ _)
      have hAL := (Later.refl w13).alloc (.cells #[.int .u64 (n 0), .int .u64 (n 1), .int .u64 (n 2), .int .u64 (n 3), .int .u64 (n 4), .int .u64 (n 5), .int .u64 (n 6), .int .u64 (n 7), .int .u64 (n 8), .int .u64 (n 9), .complex .f64 A1 B1] 29)
      have hT14 := hT13.later hAL
      have hL14 := hL13.trans hAL
      obtain ⟨w14, hVV⟩ : ∃ V, w13.alloc (.cells #[.int .u64 (n 0), .int .u64 (n 1), .int .u64 (n 2), .int .u64 (n 3), .int .u64 (n 4), .int .u64 (n 5), .int .u64 (n 6), .int .u64 (n 7), .int .u64 (n 8), .int .u64 (n 9), .complex .f64 A1 B1] 29) = V := ⟨_, rfl⟩
      obtain ⟨G28, hGG⟩ : ∃ g, w13.heap.size = g := ⟨_, rfl⟩
      rw [hVV, hGG] at hNEW
      rw [hVV] at hT14 hL14
      try rw [hVV]
      try rw [hGG]
      have hV14 := hNEW
      clear hVV hGG hAL hNEW hT13 hL13
      clear hV14
      refine (statIs_is _ _ _ _ _ _ _ _ _ _ az bz haz hbz _).mono ?_
      rintro e w15 ⟨rfl, hj⟩
      have hT15 := hT14.later hj
      have hL15 := hL14.trans hj
      clear hT14 hL14 hj
      have q3 : w15.cell? ⟨G24, 3, none⟩ = some (.int .u64 (pz 3)) := hT15.2.1 3 (by omega)
      by_cases hq : f % 3 = 1
      · have hd1 : (((f % 3 : Nat) : Int) == 1) = true := by simp; omega
        have hd2 : decide (((f % 3 : Nat) : Int) = 1) = true := by simp; omega
        have hd3 : decide (f % 3 = 1) = true := by simpa using hq
        have hd4 : (((f % 3 : Nat) : Int) != 1) = false := by simp; omega
        have hful := HM.out.2 hq
        have hz3 := join_full n m' o HN.out.1.x HN.out.2.2.x 3 (by omega) hful
        rw [HRx.out.1.1, HRz.out.1.1] at hz3
        rw [hz3] at q3
        clear hful hz3
        go_wp2_with fail
        refine (awake_is _ (HE.out.later (HLW.out.trans hL15))).mono ?_
        rintro e w16 ⟨rfl, hj⟩
        have hL16 := HLW.out.trans (hL15.trans hj)
        go_wp2_with fail
        go_ret
        exact ⟨rfl, hL16⟩
      · have hd1 : (((f % 3 : Nat) : Int) == 1) = false := by simp; omega
        have hd2 : decide (((f % 3 : Nat) : Int) = 1) = false := by simp; omega
        have hd3 : decide (f % 3 = 1) = false := by simpa using hq
        have hd4 : (((f % 3 : Nat) : Int) != 1) = true := by simp; omega
        go_wp2_with fail
        refine (awake_is _ (HE.out.later (HLW.out.trans hL15))).mono ?_
        rintro e w16 ⟨rfl, hj⟩
        have hL16 := HLW.out.trans (hL15.trans hj)
        go_wp2_with fail
        go_ret
        exact ⟨rfl, hL16⟩
end Go.Proofs.YthohoendjipleaaDoor
