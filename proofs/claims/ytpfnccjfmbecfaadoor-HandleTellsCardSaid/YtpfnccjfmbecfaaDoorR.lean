/-
  The law HandleTells, walked. Conditions: the numbers are within their types; the listed variables read as laid.
-/
import Derived.Test.YtpfnccjfmbecfaaDoorQ
namespace Go.Proofs.YtpfnccjfmbecfaaDoor
open Go.RowKit Go.Sort Go.Lib

set_option maxRecDepth 100000 in
set_option maxHeartbeats 6400000 in
theorem HandleTells_any (t g r t' g' r' d : Int) (g0 : 0 ≤ g) (g1 : g ≤ 4294967295) (r0 : 0 ≤ r) (r1 : r ≤ 255) (s0 : 0 ≤ r') (s1 : r' ≤ 255) (w : World) (hw : Laid w) :
    Calls Tryd.prog 5 #[.agg #[.int .i64 t, .int .u32 g, .int .u8 r], .agg #[.int .i64 t', .int .u32 g', .int .u8 r'], .int .i64 d] w fun e w' => e = .returned (.bool true) ∧ Later w w' := by
  have hS1 := fun w1 (h1 : Laid w1) => same_is t g r t' g' r' d g0 g1 r0 r1 s0 s1 w1 h1
  have hS2 := fun w1 (h1 : Laid w1) => same_is t g r t g r' d g0 g1 r0 r1 s0 s1 w1 h1
  clear g0 g1 r0 r1 s0 s1
  go_enter Tryd.func5, Tryd.ntmps5
  go_wp2_with fail
  refine (hS1 _ (hw.later ?_)).mono ?_
  · first
      | exact ((((Later.refl w).alloc _).alloc _).alloc _).setCell _ _ (by simp <;> omega)
      | exact ((((Later.refl w).alloc _).alloc _).alloc _)
  rintro e w1 ⟨rfl, hb1⟩
  have k00 := cell_at hb1 (p := ⟨w.heap.size, 0, none⟩) (v := .int .i64 t) (by go_cell) (by simp <;> omega)
  have k01 := cell_at hb1 (p := ⟨w.heap.size, 1, none⟩) (v := .int .u32 g) (by go_cell) (by simp <;> omega)
  have k02 := cell_at hb1 (p := ⟨w.heap.size, 2, none⟩) (v := .int .u8 r) (by go_cell) (by simp <;> omega)
  have k10 := cell_at hb1 (p := ⟨w.heap.size + 1 + 1, 0, none⟩) (v := .int .i64 t) (by go_cell) (by simp <;> omega)
  have k11 := cell_at hb1 (p := ⟨w.heap.size + 1 + 1, 1, none⟩) (v := .int .u32 g) (by go_cell) (by simp <;> omega)
  have k12 := cell_at hb1 (p := ⟨w.heap.size + 1 + 1, 2, none⟩) (v := .int .u8 r') (by go_cell) (by simp <;> omega)
  have hl1 : Later w w1 := by
    refine Later.trans ?_ hb1
    first
      | exact ((((Later.refl w).alloc _).alloc _).alloc _).setCell _ _ (by simp <;> omega)
      | exact ((((Later.refl w).alloc _).alloc _).alloc _)
  clear hb1
  go_wp2_with fail
  refine (hS2 _ (hw.later hl1)).mono ?_
  rintro e w2 ⟨rfl, hb2⟩
  have hl2 := hl1.trans hb2
  go_wp2_with fail
  refine (awake_is _ (hw.later hl2)).mono ?_
  rintro e w3 ⟨rfl, hb3⟩
  go_wp2_with fail
  go_ret
  exact ⟨rfl, hl2.trans hb3⟩
end Go.Proofs.YtpfnccjfmbecfaaDoor
