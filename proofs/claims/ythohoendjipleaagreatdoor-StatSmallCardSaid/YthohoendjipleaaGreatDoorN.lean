/-
  Package stat: After at no events; Next. Conditions: the counters are words; the parts of the load are from 0 to 2.
-/
import Derived.Test.YthohoendjipleaaGreatDoorV
namespace Go.Proofs.YthohoendjipleaaGreatDoor
open Go.RowKit

set_option maxRecDepth 100000 in
set_option maxHeartbeats 16000000 in
theorem After_nil (x0 : Nat → Int) (a0 b0 : Nat) (hx0 : okX x0) (ha0 : a0 ≤ W2) (hb0 : b0 ≤ W2) (w : World) :
    Calls Tryz.prog 17 #[.agg #[.int .u64 (x0 0), .int .u64 (x0 1), .int .u64 (x0 2), .int .u64 (x0 3), .int .u64 (x0 4), .int .u64 (x0 5), .int .u64 (x0 6), .int .u64 (x0 7), .int .u64 (x0 8), .int .u64 (x0 9), .complex .f64 a0 b0], .slice none 0 0] w fun e w' => e = .returned (.tuple #[statV x0 a0 b0, .bool true]) ∧ Later w w' := by
  have HX0 := Lib.hid hx0
  clear hx0
  have hst := run_store_complex Tryz.prog
  go_enter Tryz.func17, Tryz.ntmps17
  go_wp2_with fail
  refine (counterOf_is _).mono ?_
  rintro e w1 ⟨rfl, hw1⟩
  have hI0 : AI w w1 w.heap.size (w.heap.size + 1) (w.heap.size + 1 + 1) x0 a0 b0 := by
    rw [hw1]
    refine ⟨((Later.refl w).alloc _).alloc _ |>.alloc _, ⟨Nat.le_refl _, by omega, by omega, by simp⟩, fun j hj => ?_, by go_cell, fun j hj => ?_, fun j hj => ?_, by go_cell, fun j hj => ?_, ?_, HX0.out, ha0, hb0⟩
    · have : j = 0 ∨ j = 1 ∨ j = 2 ∨ j = 3 ∨ j = 4 ∨ j = 5 ∨ j = 6 ∨ j = 7 ∨ j = 8 ∨ j = 9 := by omega
      rcases this with rfl | rfl | rfl | rfl | rfl | rfl | rfl | rfl | rfl | rfl <;> go_cell
    · have : j = 0 ∨ j = 1 ∨ j = 2 ∨ j = 3 ∨ j = 4 ∨ j = 5 ∨ j = 6 ∨ j = 7 ∨ j = 8 ∨ j = 9 ∨ j = 10 := by omega
      rcases this with rfl | rfl | rfl | rfl | rfl | rfl | rfl | rfl | rfl | rfl | rfl <;> go_cell
    · have : j = 0 ∨ j = 1 ∨ j = 2 ∨ j = 3 ∨ j = 4 ∨ j = 5 ∨ j = 6 ∨ j = 7 ∨ j = 8 ∨ j = 9 := by omega
      rcases this with rfl | rfl | rfl | rfl | rfl | rfl | rfl | rfl | rfl | rfl <;> go_cell
    · have : j = 0 ∨ j = 1 ∨ j = 2 ∨ j = 3 ∨ j = 4 ∨ j = 5 ∨ j = 6 ∨ j = 7 ∨ j = 8 ∨ j = 9 ∨ j = 10 := by omega
      rcases this with rfl | rfl | rfl | rfl | rfl | rfl | rfl | rfl | rfl | rfl | rfl <;> go_cell
    · have key : ∀ A B O : Obj, (((w.alloc A).alloc B).alloc O).heap[w.heap.size + 1 + 1]? = some O := fun A B O => by
        have := (MapKept.heap_alloc ((w.alloc A).alloc B) O).1
        rwa [show ((w.alloc A).alloc B).heap.size = w.heap.size + 1 + 1 by simp] at this
      exact key _ _ _
  have hM : ((w.alloc (Obj.cells #[.int .u64 (x0 0), .int .u64 (x0 1), .int .u64 (x0 2), .int .u64 (x0 3), .int .u64 (x0 4), .int .u64 (x0 5), .int .u64 (x0 6), .int .u64 (x0 7), .int .u64 (x0 8), .int .u64 (x0 9), .complex .f64 a0 b0] 27)).alloc (Obj.cells #[.int .u64 0, .int .u64 0, .int .u64 0, .int .u64 0, .int .u64 0, .int .u64 0, .int .u64 0, .int .u64 0, .int .u64 0, .int .u64 0, .complex .f64 0 0] 27)).heap.size = w.heap.size + 1 + 1 := by simp
  obtain ⟨M, hM'⟩ : ∃ M, w.heap.size + 1 + 1 = M := ⟨_, rfl⟩
  obtain ⟨R, hR'⟩ : ∃ R, w.heap.size + 1 = R := ⟨_, rfl⟩
  obtain ⟨S, hS'⟩ : ∃ S, w.heap.size = S := ⟨_, rfl⟩
  try rw [hM]
  rw [hM', hR', hS'] at hI0 ⊢
  clear hw1 hM hM' hR' hS'
  have h0 := hI0.2.2.1
  have k0 := h0 0 (by omega)
  have k1 := h0 1 (by omega)
  have k2 := h0 2 (by omega)
  have k3 := h0 3 (by omega)
  have k4 := h0 4 (by omega)
  have k5 := h0 5 (by omega)
  have k6 := h0 6 (by omega)
  have k7 := h0 7 (by omega)
  have k8 := h0 8 (by omega)
  have k9 := h0 9 (by omega)
  have k10 := hI0.2.2.2.1
  go_wp2_with fail
  refine (statIs_is _ _ _ _ _ _ _ _ _ _ a0 b0 ha0 hb0 _).mono ?_
  rintro e w2 ⟨rfl, hb2⟩
  have hI1 := hI0.later hb2
  clear hb2 hI0 h0 k0 k1 k2 k3 k4 k5 k6 k7 k8 k9 k10
  go_wp2_with fail
  have hlw1 := hI1.1
  clear hlw1
  refine wp_loop_rounds 1 ?_
  rw [rounds_succ]
  obtain ⟨h1, ⟨h2, h3, h4, h5⟩, hs, k10, hf, hr, r10, hg, hm, hx, hxa, hxb⟩ := hI1
  have hRl : w.heap.size ≤ R := by omega
  have k0 := hs 0 (by omega)
  have r0 := hr 0 (by omega)
  have k1 := hs 1 (by omega)
  have r1 := hr 1 (by omega)
  have k2 := hs 2 (by omega)
  have r2 := hr 2 (by omega)
  have k3 := hs 3 (by omega)
  have r3 := hr 3 (by omega)
  have k4 := hs 4 (by omega)
  have r4 := hr 4 (by omega)
  have k5 := hs 5 (by omega)
  have r5 := hr 5 (by omega)
  have k6 := hs 6 (by omega)
  have r6 := hr 6 (by omega)
  have k7 := hs 7 (by omega)
  have r7 := hr 7 (by omega)
  have k8 := hs 8 (by omega)
  have r8 := hr 8 (by omega)
  have k9 := hs 9 (by omega)
  have r9 := hr 9 (by omega)
  have g0 := hg 0 (by omega)
  have g1 := hg 1 (by omega)
  have g2 := hg 2 (by omega)
  have g3 := hg 3 (by omega)
  have g4 := hg 4 (by omega)
  have g5 := hg 5 (by omega)
  have g6 := hg 6 (by omega)
  have g7 := hg 7 (by omega)
  have g8 := hg 8 (by omega)
  have g9 := hg 9 (by omega)
  have g10 := hg 10 (by omega)
  clear hs hr hg hf hm hx
  go_wp2_with fail
  have hrow := setRow_cell w2 R (rowV x0 a0 b0) 11 (fun j hj => by
    have : j = 0 ∨ j = 1 ∨ j = 2 ∨ j = 3 ∨ j = 4 ∨ j = 5 ∨ j = 6 ∨ j = 7 ∨ j = 8 ∨ j = 9 ∨ j = 10 := by omega
    rcases this with rfl | rfl | rfl | rfl | rfl | rfl | rfl | rfl | rfl | rfl | rfl
    · exact ⟨_, r0⟩
    · exact ⟨_, r1⟩
    · exact ⟨_, r2⟩
    · exact ⟨_, r3⟩
    · exact ⟨_, r4⟩
    · exact ⟨_, r5⟩
    · exact ⟨_, r6⟩
    · exact ⟨_, r7⟩
    · exact ⟨_, r8⟩
    · exact ⟨_, r9⟩
    · exact ⟨_, r10⟩) 11 (Nat.le_refl _)
  have hlU := setRow_later h1 R hRl (rowV x0 a0 b0) 11
  have eU : (((((((((((w2.setCell ⟨R, 0, none⟩ (.int .u64 (x0 0))).setCell ⟨R, 1, none⟩ (.int .u64 (x0 1))).setCell ⟨R, 2, none⟩ (.int .u64 (x0 2))).setCell ⟨R, 3, none⟩ (.int .u64 (x0 3))).setCell ⟨R, 4, none⟩ (.int .u64 (x0 4))).setCell ⟨R, 5, none⟩ (.int .u64 (x0 5))).setCell ⟨R, 6, none⟩ (.int .u64 (x0 6))).setCell ⟨R, 7, none⟩ (.int .u64 (x0 7))).setCell ⟨R, 8, none⟩ (.int .u64 (x0 8))).setCell ⟨R, 9, none⟩ (.int .u64 (x0 9))).setCell ⟨R, 10, none⟩ (.complex .f64 a0 b0)) = setRow w2 R (rowV x0 a0 b0) 11 := rfl
  rw [eU]
  clear eU k0 r0 g0 k1 r1 g1 k2 r2 g2 k3 r3 g3 k4 r4 g4 k5 r5 g5 k6 r6 g6 k7 r7 g7 k8 r8 g8 k9 r9 g9 k10 r10 g10
  generalize setRow w2 R (rowV x0 a0 b0) 11 = U at *
  have u0 : U.cell? ⟨R, 0, none⟩ = some (.int .u64 (x0 0)) := (hrow 0).1 (by omega)
  have u1 : U.cell? ⟨R, 1, none⟩ = some (.int .u64 (x0 1)) := (hrow 1).1 (by omega)
  have u2 : U.cell? ⟨R, 2, none⟩ = some (.int .u64 (x0 2)) := (hrow 2).1 (by omega)
  have u3 : U.cell? ⟨R, 3, none⟩ = some (.int .u64 (x0 3)) := (hrow 3).1 (by omega)
  have u4 : U.cell? ⟨R, 4, none⟩ = some (.int .u64 (x0 4)) := (hrow 4).1 (by omega)
  have u5 : U.cell? ⟨R, 5, none⟩ = some (.int .u64 (x0 5)) := (hrow 5).1 (by omega)
  have u6 : U.cell? ⟨R, 6, none⟩ = some (.int .u64 (x0 6)) := (hrow 6).1 (by omega)
  have u7 : U.cell? ⟨R, 7, none⟩ = some (.int .u64 (x0 7)) := (hrow 7).1 (by omega)
  have u8 : U.cell? ⟨R, 8, none⟩ = some (.int .u64 (x0 8)) := (hrow 8).1 (by omega)
  have u9 : U.cell? ⟨R, 9, none⟩ = some (.int .u64 (x0 9)) := (hrow 9).1 (by omega)
  have u10 : U.cell? ⟨R, 10, none⟩ = some (.complex .f64 a0 b0) := (hrow 10).1 (by omega)
  clear hrow
  refine bodyPost_ret (v := .tuple #[statV x0 a0 b0, .bool true]) (by simp [results, Tryz.results17, go_sem, statV, u0, u1, u2, u3, u4, u5, u6, u7, u8, u9, u10]) rfl ⟨rfl, hlU⟩

theorem After_of (E o : Nat) (l : List Ev) (cap : Nat) (v : Value) (hv : v = .slice (some ⟨E, o, none⟩) l.length cap ∨ (v = .slice none 0 0 ∧ l = [])) (hl : l.length ≤ 1000000) (hok : ∀ e ∈ l, okE e) (x0 : Nat → Int) (a0 b0 : Nat) (hx0 : okX x0) (ha0 : a0 ≤ W2) (hb0 : b0 ≤ W2) (w : World) (hE : l ≠ [] → E < w.heap.size)
    (hev : ∀ i e, l[i]? = some e → EvAt w E (o + i * 18) e) (hE2 : v = .slice (some ⟨E, o, none⟩) l.length cap → E < w.heap.size) :
    Calls Tryz.prog 17 #[statV x0 a0 b0, v] w fun e w' => e = .returned (.tuple #[statV (runX x0 l) (runR a0 l) (runI b0 l), .bool true]) ∧ Later w w' := by
  rcases hv with rfl | ⟨rfl, rfl⟩
  · exact After_is E o l cap hl hok x0 a0 b0 hx0 ha0 hb0 w (hE2 rfl) hev
  · exact After_nil x0 a0 b0 hx0 ha0 hb0 w
end Go.Proofs.YthohoendjipleaaGreatDoor
