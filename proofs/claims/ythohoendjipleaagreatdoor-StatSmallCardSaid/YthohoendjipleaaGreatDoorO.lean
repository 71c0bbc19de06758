/-
  Package stat: Next. Conditions: the counters are words; the parts of the load are from 0 to 2; a deed from Get to Tell.
-/
import Derived.Test.YthohoendjipleaaGreatDoorN
import Derived.Test.YthohoendjipleaaGreatDoorM
namespace Go.Proofs.YthohoendjipleaaGreatDoor
open Go.RowKit

/-- an answer's cells: the error alone -/
def ansC (er : Int) : Array Value := #[.int .i64 er, .string ⟨#[]⟩, .slice none 0 0, .int .i64 0, .int .u32 0, .int .u8 0, .int .u64 0, .int .u64 0, .int .u64 0, .int .u64 0, .int .u64 0, .int .u64 0, .int .u64 0, .int .u64 0, .int .u64 0, .int .u64 0, .complex .f64 0 0]
theorem EvAt_of_cells {w : World} {E : Nat} {e : Ev} {o : Nat} (h : ∀ j v, (evC e)[j]? = some v → w.cell? ⟨E, o + j, none⟩ = some v) : EvAt w E o e := by
  refine ⟨h 0 _ rfl, h 1 _ rfl, h 2 _ rfl, h 3 _ rfl, h 4 _ rfl, h 5 _ rfl, h 6 _ rfl, fun j hj => ?_, h 17 _ rfl⟩
  have : j = 0 ∨ j = 1 ∨ j = 2 ∨ j = 3 ∨ j = 4 ∨ j = 5 ∨ j = 6 ∨ j = 7 ∨ j = 8 ∨ j = 9 := by omega
  rcases this with rfl | rfl | rfl | rfl | rfl | rfl | rfl | rfl | rfl | rfl <;> exact h _ _ rfl
def ZST : Array Value := #[.int .u64 0, .int .u64 0, .int .u64 0, .int .u64 0, .int .u64 0, .int .u64 0, .int .u64 0, .int .u64 0, .int .u64 0, .int .u64 0, .complex .f64 0 0]

set_option maxRecDepth 100000 in
set_option maxHeartbeats 8000000 in
theorem statNext_is (x0 : Nat → Int) (a0 b0 : Nat) (hx0 : okX x0) (ha0 : a0 ≤ W2) (hb0 : b0 ≤ W2) (d er : Int) (hd : 1 ≤ d ∧ d ≤ 6) (w : World) :
    Calls Tryz.prog 18 #[statV x0 a0 b0, .int .i64 d, .agg (ansC er)] w fun e w' => e = .returned (.tuple #[statV (evX x0 ⟨d, er, none, 0, 0⟩) (nextR a0 d) (nextI b0 d), .bool true]) ∧ Later w w' := by
  have HX0 := Lib.hid hx0
  have HD := Lib.hid hd
  clear hx0 hd
  unfold statV ansC
  go_enter Tryz.func18, Tryz.ntmps18
  go_upto_region 1 with fail
  obtain ⟨W, hW⟩ : ∃ W, ((w.alloc (.cells #[.int .u64 (x0 0), .int .u64 (x0 1), .int .u64 (x0 2), .int .u64 (x0 3), .int .u64 (x0 4), .int .u64 (x0 5), .int .u64 (x0 6), .int .u64 (x0 7), .int .u64 (x0 8), .int .u64 (x0 9), .complex .f64 a0 b0] 27)).alloc (.cells #[.int .i64 er, .string ⟨#[]⟩, .slice none 0 0, .int .i64 0, .int .u32 0, .int .u8 0, .int .u64 0, .int .u64 0, .int .u64 0, .int .u64 0, .int .u64 0, .int .u64 0, .int .u64 0, .int .u64 0, .int .u64 0, .int .u64 0, .complex .f64 0 0] 38)).alloc (.cells #[.int .u64 0, .int .u64 0, .int .u64 0, .int .u64 0, .int .u64 0, .int .u64 0, .int .u64 0, .int .u64 0, .int .u64 0, .int .u64 0, .complex .f64 0 0] 27) = W := ⟨_, rfl⟩
  have e1 : (w.alloc (.cells #[.int .u64 (x0 0), .int .u64 (x0 1), .int .u64 (x0 2), .int .u64 (x0 3), .int .u64 (x0 4), .int .u64 (x0 5), .int .u64 (x0 6), .int .u64 (x0 7), .int .u64 (x0 8), .int .u64 (x0 9), .complex .f64 a0 b0] 27)).heap.size = w.heap.size + 1 := by simp
  have e2 : ((w.alloc (.cells #[.int .u64 (x0 0), .int .u64 (x0 1), .int .u64 (x0 2), .int .u64 (x0 3), .int .u64 (x0 4), .int .u64 (x0 5), .int .u64 (x0 6), .int .u64 (x0 7), .int .u64 (x0 8), .int .u64 (x0 9), .complex .f64 a0 b0] 27)).alloc (.cells #[.int .i64 er, .string ⟨#[]⟩, .slice none 0 0, .int .i64 0, .int .u32 0, .int .u8 0, .int .u64 0, .int .u64 0, .int .u64 0, .int .u64 0, .int .u64 0, .int .u64 0, .int .u64 0, .int .u64 0, .int .u64 0, .int .u64 0, .complex .f64 0 0] 38)).heap.size = w.heap.size + 1 + 1 := by simp
  have hA : W.heap[w.heap.size + 1]? = some (.cells #[.int .i64 er, .string ⟨#[]⟩, .slice none 0 0, .int .i64 0, .int .u32 0, .int .u8 0, .int .u64 0, .int .u64 0, .int .u64 0, .int .u64 0, .int .u64 0, .int .u64 0, .int .u64 0, .int .u64 0, .int .u64 0, .int .u64 0, .complex .f64 0 0] 38 (0, 0)) := by
    have := heapB (w.alloc (.cells #[.int .u64 (x0 0), .int .u64 (x0 1), .int .u64 (x0 2), .int .u64 (x0 3), .int .u64 (x0 4), .int .u64 (x0 5), .int .u64 (x0 6), .int .u64 (x0 7), .int .u64 (x0 8), .int .u64 (x0 9), .complex .f64 a0 b0] 27)) (.cells #[.int .i64 er, .string ⟨#[]⟩, .slice none 0 0, .int .i64 0, .int .u32 0, .int .u8 0, .int .u64 0, .int .u64 0, .int .u64 0, .int .u64 0, .int .u64 0, .int .u64 0, .int .u64 0, .int .u64 0, .int .u64 0, .int .u64 0, .complex .f64 0 0] 38) (.cells #[.int .u64 0, .int .u64 0, .int .u64 0, .int .u64 0, .int .u64 0, .int .u64 0, .int .u64 0, .int .u64 0, .int .u64 0, .int .u64 0, .complex .f64 0 0] 27)
    rw [e1] at this; rw [← hW]; exact this
  have hR : W.heap[w.heap.size + 1 + 1]? = some (.cells #[.int .u64 0, .int .u64 0, .int .u64 0, .int .u64 0, .int .u64 0, .int .u64 0, .int .u64 0, .int .u64 0, .int .u64 0, .int .u64 0, .complex .f64 0 0] 27 (0, 0)) := by
    have := heapA (w.alloc (.cells #[.int .u64 (x0 0), .int .u64 (x0 1), .int .u64 (x0 2), .int .u64 (x0 3), .int .u64 (x0 4), .int .u64 (x0 5), .int .u64 (x0 6), .int .u64 (x0 7), .int .u64 (x0 8), .int .u64 (x0 9), .complex .f64 a0 b0] 27)) (.cells #[.int .i64 er, .string ⟨#[]⟩, .slice none 0 0, .int .i64 0, .int .u32 0, .int .u8 0, .int .u64 0, .int .u64 0, .int .u64 0, .int .u64 0, .int .u64 0, .int .u64 0, .int .u64 0, .int .u64 0, .int .u64 0, .int .u64 0, .complex .f64 0 0] 38) (.cells #[.int .u64 0, .int .u64 0, .int .u64 0, .int .u64 0, .int .u64 0, .int .u64 0, .int .u64 0, .int .u64 0, .int .u64 0, .int .u64 0, .complex .f64 0 0] 27)
    rw [e1] at this; rw [← hW]; exact this
  have hS : W.heap[w.heap.size]? = some (.cells #[.int .u64 (x0 0), .int .u64 (x0 1), .int .u64 (x0 2), .int .u64 (x0 3), .int .u64 (x0 4), .int .u64 (x0 5), .int .u64 (x0 6), .int .u64 (x0 7), .int .u64 (x0 8), .int .u64 (x0 9), .complex .f64 a0 b0] 27 (0, 0)) := by
    rw [← hW]; exact (Below.heap_alloc _ _ _ (by simp <;> omega)).trans (heapB w _ _)
  have k0 : W.cell? ⟨w.heap.size, 0, none⟩ = some (.int .u64 (x0 0)) := by simp [World.cell?, hS]
  have k1 : W.cell? ⟨w.heap.size, 1, none⟩ = some (.int .u64 (x0 1)) := by simp [World.cell?, hS]
  have k2 : W.cell? ⟨w.heap.size, 2, none⟩ = some (.int .u64 (x0 2)) := by simp [World.cell?, hS]
  have k3 : W.cell? ⟨w.heap.size, 3, none⟩ = some (.int .u64 (x0 3)) := by simp [World.cell?, hS]
  have k4 : W.cell? ⟨w.heap.size, 4, none⟩ = some (.int .u64 (x0 4)) := by simp [World.cell?, hS]
  have k5 : W.cell? ⟨w.heap.size, 5, none⟩ = some (.int .u64 (x0 5)) := by simp [World.cell?, hS]
  have k6 : W.cell? ⟨w.heap.size, 6, none⟩ = some (.int .u64 (x0 6)) := by simp [World.cell?, hS]
  have k7 : W.cell? ⟨w.heap.size, 7, none⟩ = some (.int .u64 (x0 7)) := by simp [World.cell?, hS]
  have k8 : W.cell? ⟨w.heap.size, 8, none⟩ = some (.int .u64 (x0 8)) := by simp [World.cell?, hS]
  have k9 : W.cell? ⟨w.heap.size, 9, none⟩ = some (.int .u64 (x0 9)) := by simp [World.cell?, hS]
  have k10 : W.cell? ⟨w.heap.size, 10, none⟩ = some (.complex .f64 a0 b0) := by simp [World.cell?, hS]
  have hlW : Later w W := by rw [← hW]; exact (((Later.refl w).alloc _).alloc _).alloc _
  have hWs : W.heap.size = w.heap.size + 1 + 1 + 1 := by rw [← hW]; simp
  try rw [hW]
  clear hW e1 e2
  have HRG := Lib.hid (rangeAt_block (w := W) (cs := [.int .i64 er, .string ⟨#[]⟩, .slice none 0 0, .int .i64 0, .int .u32 0, .int .u8 0, .int .u64 0, .int .u64 0, .int .u64 0, .int .u64 0, .int .u64 0, .int .u64 0, .int .u64 0, .int .u64 0, .int .u64 0, .int .u64 0, .complex .f64 0 0]) hA)
  have HWS := Lib.hid hWs
  have HR := Lib.hid hR
  clear hA hWs hR hS
  go_wp2_with (first | (refine wpList_load_mid rfl 38 (.tmp 5) rfl (w.heap.size + 1) 0 rfl [.int .i64 er, .string ⟨#[]⟩, .slice none 0 0, .int .i64 0, .int .u32 0, .int .u8 0, .int .u64 0, .int .u64 0, .int .u64 0, .int .u64 0, .int .u64 0, .int .u64 0, .int .u64 0, .int .u64 0, .int .u64 0, .int .u64 0, .complex .f64 0 0] _ HRG.out Tryz.underlying38 rfl (by kernel_rfl) ?_))
  have hev : ∀ i e, ([⟨d, er, none, 0, 0⟩] : List Ev)[i]? = some e → EvAt (W.alloc (.cells #[.int .i64 d, .int .i64 er, .string ⟨#[]⟩, .slice none 0 0, .int .i64 0, .int .u32 0, .int .u8 0, .int .u64 0, .int .u64 0, .int .u64 0, .int .u64 0, .int .u64 0, .int .u64 0, .int .u64 0, .int .u64 0, .int .u64 0, .int .u64 0, .complex .f64 0 0] 56)) W.heap.size (0 + i * 18) e := fun i e he => by
    match i, he with
    | 0, he =>
      obtain rfl : (⟨d, er, none, 0, 0⟩ : Ev) = e := by simpa using he
      exact EvAt_of_cells (fun j v hv => by
        rw [World.cell?_alloc_new]
        have : (#[.int .i64 d, .int .i64 er, .string ⟨#[]⟩, .slice none 0 0, .int .i64 0, .int .u32 0, .int .u8 0, .int .u64 0, .int .u64 0, .int .u64 0, .int .u64 0, .int .u64 0, .int .u64 0, .int .u64 0, .int .u64 0, .int .u64 0, .int .u64 0, .complex .f64 0 0] : Array Value)[0 + 0 * 18 + j]? = (evC ⟨d, er, none, 0, 0⟩)[j]? := by simp [evC]
        rw [this]; exact hv)
    | i + 1, he => simp at he
  refine (After_is W.heap.size 0 [⟨d, er, none, 0, 0⟩] 1 (by simp) (by simp [okE]; exact HD.out) x0 a0 b0 HX0.out ha0 hb0 _ (by simp) hev).mono ?_
  rintro e w2 ⟨rfl, hb2⟩
  have hl2 := ((Later.refl W).alloc (.cells #[.int .i64 d, .int .i64 er, .string ⟨#[]⟩, .slice none 0 0, .int .i64 0, .int .u32 0, .int .u8 0, .int .u64 0, .int .u64 0, .int .u64 0, .int .u64 0, .int .u64 0, .int .u64 0, .int .u64 0, .int .u64 0, .int .u64 0, .int .u64 0, .complex .f64 0 0] 56)).trans hb2
  have hR2 : w2.heap[w.heap.size + 1 + 1]? = some (.cells #[.int .u64 0, .int .u64 0, .int .u64 0, .int .u64 0, .int .u64 0, .int .u64 0, .int .u64 0, .int .u64 0, .int .u64 0, .int .u64 0, .complex .f64 0 0] 27 (0, 0)) := (Below.block hl2 _ (by have := HWS.out; omega)).trans HR.out
  rw [show runX x0 [⟨d, er, none, 0, 0⟩] = evX x0 ⟨d, er, none, 0, 0⟩ from rfl, show runR a0 [⟨d, er, none, 0, 0⟩] = nextR a0 d from rfl, show runI b0 [⟨d, er, none, 0, 0⟩] = nextI b0 d from rfl]
  obtain ⟨y, hy⟩ : ∃ y, evX x0 ⟨d, er, none, 0, 0⟩ = y := ⟨_, rfl⟩
  obtain ⟨p, hp⟩ : ∃ p, nextR a0 d = p := ⟨_, rfl⟩
  obtain ⟨q, hq⟩ : ∃ q, nextI b0 d = q := ⟨_, rfl⟩
  have HY := Lib.hid (And.intro hy (And.intro hp hq))
  rw [hy, hp, hq]
  clear hy hp hq hev hb2 k0 k1 k2 k3 k4 k5 k6 k7 k8 k9 k10
  unfold statV
  go_wp2_with (first | (refine wpList_store_rowTo rfl 27 (.tmp 6) (.tmp 14) rfl rfl (w.heap.size + 1 + 1) #[.int .u64 (y 0), .int .u64 (y 1), .int .u64 (y 2), .int .u64 (y 3), .int .u64 (y 4), .int .u64 (y 5), .int .u64 (y 6), .int .u64 (y 7), .int .u64 (y 8), .int .u64 (y 9), .complex .f64 p q] rfl rfl 27 #[.int .u64 0, .int .u64 0, .int .u64 0, .int .u64 0, .int .u64 0, .int .u64 0, .int .u64 0, .int .u64 0, .int .u64 0, .int .u64 0, .complex .f64 0 0] hR2 (by kernel_rfl) rfl (by kernel_rfl) ?_))
  have hl3 : Later w (w2.setRow (w.heap.size + 1 + 1) #[.int .u64 (y 0), .int .u64 (y 1), .int .u64 (y 2), .int .u64 (y 3), .int .u64 (y 4), .int .u64 (y 5), .int .u64 (y 6), .int .u64 (y 7), .int .u64 (y 8), .int .u64 (y 9), .complex .f64 p q]) := below_setRow (hlW.trans hl2) (by omega) _
  have u := fun j => cell_setRow_same w2 (w.heap.size + 1 + 1) j _ #[.int .u64 (y 0), .int .u64 (y 1), .int .u64 (y 2), .int .u64 (y 3), .int .u64 (y 4), .int .u64 (y 5), .int .u64 (y 6), .int .u64 (y 7), .int .u64 (y 8), .int .u64 (y 9), .complex .f64 p q] 27 (0, 0) hR2
  have u0 := u 0
  have u1 := u 1
  have u2 := u 2
  have u3 := u 3
  have u4 := u 4
  have u5 := u 5
  have u6 := u 6
  have u7 := u 7
  have u8 := u 8
  have u9 := u 9
  have u10 := u 10
  clear u
  generalize w2.setRow (w.heap.size + 1 + 1) #[.int .u64 (y 0), .int .u64 (y 1), .int .u64 (y 2), .int .u64 (y 3), .int .u64 (y 4), .int .u64 (y 5), .int .u64 (y 6), .int .u64 (y 7), .int .u64 (y 8), .int .u64 (y 9), .complex .f64 p q] = w3 at *
  exact bodyPost_ret (v := .tuple #[.agg #[.int .u64 (y 0), .int .u64 (y 1), .int .u64 (y 2), .int .u64 (y 3), .int .u64 (y 4), .int .u64 (y 5), .int .u64 (y 6), .int .u64 (y 7), .int .u64 (y 8), .int .u64 (y 9), .complex .f64 p q], .bool true]) (by simp [results, Tryz.results18, go_sem, u0, u1, u2, u3, u4, u5, u6, u7, u8, u9, u10]) rfl ⟨by rw [HY.out.1, HY.out.2.1, HY.out.2.2], hl3⟩
end Go.Proofs.YthohoendjipleaaGreatDoor
