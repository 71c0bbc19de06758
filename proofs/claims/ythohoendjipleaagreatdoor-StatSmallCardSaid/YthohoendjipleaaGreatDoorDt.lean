/-
  The reference's total, walked: one region of nine calls that draws its order. Conditions: the counters are words.
-/
import Derived.Test.YthohoendjipleaaGreatDoorDx
import Derived.Test.YthohoendjipleaaGreatDoorIn
import Derived.Test.YthohoendjipleaaGreatDoorR2
import Derived.Deep.DeepCutAuto
namespace Go.Proofs.YthohoendjipleaaGreatDoor
open Go.RowKit Go.Lib
set_option linter.unusedSimpArgs false
set_option linter.unusedVariables false

set_option maxRecDepth 100000 in
set_option maxHeartbeats 16000000 in
theorem total25_in (n0 n1 n2 n3 n4 n5 n6 n7 n8 n9 : Nat) (h2 : n2 < 18446744073709551616) (h3 : n3 < 18446744073709551616) (h4 : n4 < 18446744073709551616) (h5 : n5 < 18446744073709551616) (h6 : n6 < 18446744073709551616) (a b : Nat) (w : World) :
    Calls Tryz.prog 25 #[.agg #[.int .u64 (n0 : Int), .int .u64 (n1 : Int), .int .u64 (n2 : Int), .int .u64 (n3 : Int), .int .u64 (n4 : Int), .int .u64 (n5 : Int), .int .u64 (n6 : Int), .int .u64 (n7 : Int), .int .u64 (n8 : Int), .int .u64 (n9 : Int), .complex .f64 a b]] w fun e w' => ∃ v, e = .returned v ∧ Dig w' v (n2 + n3 + n4 + n5 + n6) ∧ Later w w' := by
  have hpow : (10 : Nat) ^ 30 = 1000000000000000000000000000000 := by decide
  go_enter Tryz.func25, Tryz.ntmps25
  go_upto_region 1 with fail
  have hl1 : Later w (w.alloc (.cells #[.int .u64 (n0 : Int), .int .u64 (n1 : Int), .int .u64 (n2 : Int), .int .u64 (n3 : Int), .int .u64 (n4 : Int), .int .u64 (n5 : Int), .int .u64 (n6 : Int), .int .u64 (n7 : Int), .int .u64 (n8 : Int), .int .u64 (n9 : Int), .complex .f64 a b] 27)) := (Later.refl w).alloc _
  have hb := (MapKept.heap_alloc w (.cells #[.int .u64 (n0 : Int), .int .u64 (n1 : Int), .int .u64 (n2 : Int), .int .u64 (n3 : Int), .int .u64 (n4 : Int), .int .u64 (n5 : Int), .int .u64 (n6 : Int), .int .u64 (n7 : Int), .int .u64 (n8 : Int), .int .u64 (n9 : Int), .complex .f64 a b] 27)).1
  obtain ⟨W, hW⟩ : ∃ W, w.alloc (.cells #[.int .u64 (n0 : Int), .int .u64 (n1 : Int), .int .u64 (n2 : Int), .int .u64 (n3 : Int), .int .u64 (n4 : Int), .int .u64 (n5 : Int), .int .u64 (n6 : Int), .int .u64 (n7 : Int), .int .u64 (n8 : Int), .int .u64 (n9 : Int), .complex .f64 a b] 27) = W := ⟨_, rfl⟩
  obtain ⟨S, hS⟩ : ∃ S, w.heap.size = S := ⟨_, rfl⟩
  obtain ⟨sv, hsv⟩ : ∃ sv, (Value.agg #[.int .u64 (n0 : Int), .int .u64 (n1 : Int), .int .u64 (n2 : Int), .int .u64 (n3 : Int), .int .u64 (n4 : Int), .int .u64 (n5 : Int), .int .u64 (n6 : Int), .int .u64 (n7 : Int), .int .u64 (n8 : Int), .int .u64 (n9 : Int), .complex .f64 a b]) = sv := ⟨_, rfl⟩
  rw [hW] at hl1 hb ⊢
  rw [hS] at hb ⊢
  rw [hsv]
  have k0 : W.cell? ⟨S, 2, none⟩ = some (.int .u64 (n2 : Int)) := by rw [Lib.cell_of_heap hb]; rfl
  have k1 : W.cell? ⟨S, 3, none⟩ = some (.int .u64 (n3 : Int)) := by rw [Lib.cell_of_heap hb]; rfl
  have k2 : W.cell? ⟨S, 4, none⟩ = some (.int .u64 (n4 : Int)) := by rw [Lib.cell_of_heap hb]; rfl
  have k3 : W.cell? ⟨S, 5, none⟩ = some (.int .u64 (n5 : Int)) := by rw [Lib.cell_of_heap hb]; rfl
  have k4 : W.cell? ⟨S, 6, none⟩ = some (.int .u64 (n6 : Int)) := by rw [Lib.cell_of_heap hb]; rfl
  clear hW hS hsv hb
  go_cut [2] from 3 to 21 (fun s2 V => Dig V s2 (n2 + n3 + n4 + n5 + n6) ∧ Later w V)
  case first J1 K1 hJ hKK =>
    refine wp_region_inv mixed (fun D a V => ∃ (y2 : Value) (x3 x4 x5 x6 x7 x8 x9 x10 x11 x12 x13 x14 x15 x16 x17 x18 x19 x20 x21 : Value), a = ⟨#[sv, .pointer (some ⟨S, 0, none⟩), y2, x3, x4, x5, x6, x7, x8, x9, x10, x11, x12, x13, x14, x15, x16, x17, x18, x19, x20, x21], []⟩ ∧ (Later w V ∧ V.cell? ⟨S, 2, none⟩ = some (.int .u64 (n2 : Int)) ∧ V.cell? ⟨S, 3, none⟩ = some (.int .u64 (n3 : Int)) ∧ V.cell? ⟨S, 4, none⟩ = some (.int .u64 (n4 : Int)) ∧ V.cell? ⟨S, 5, none⟩ = some (.int .u64 (n5 : Int)) ∧ V.cell? ⟨S, 6, none⟩ = some (.int .u64 (n6 : Int))) ∧ (D 0 = true → x3 = .pointer (some ⟨S, 2, none⟩)) ∧ (D 1 = true → x4 = .int .u64 (n2 : Int)) ∧ (D 2 = true → Dig V x5 n2) ∧ (D 3 = true → x6 = .pointer (some ⟨S, 3, none⟩)) ∧ (D 4 = true → x7 = .int .u64 (n3 : Int)) ∧ (D 5 = true → Dig V x8 n3) ∧ (D 6 = true → Dig V x9 (n2 + n3)) ∧ (D 7 = true → x10 = .pointer (some ⟨S, 4, none⟩)) ∧ (D 8 = true → x11 = .int .u64 (n4 : Int)) ∧ (D 9 = true → Dig V x12 n4) ∧ (D 10 = true → Dig V x13 (n2 + n3 + n4)) ∧ (D 11 = true → x14 = .pointer (some ⟨S, 5, none⟩)) ∧ (D 12 = true → x15 = .int .u64 (n5 : Int)) ∧ (D 13 = true → Dig V x16 n5) ∧ (D 14 = true → Dig V x17 (n2 + n3 + n4 + n5)) ∧ (D 15 = true → x18 = .pointer (some ⟨S, 6, none⟩)) ∧ (D 16 = true → x19 = .int .u64 (n6 : Int)) ∧ (D 17 = true → Dig V x20 n6) ∧ (D 18 = true → Dig V x21 (n2 + n3 + n4 + n5 + n6)) ∧ (D 19 = true → Dig V y2 (n2 + n3 + n4 + n5 + n6))) (by kernel_rfl) ?h0 ?hstep ?hend
    case h0 => exact ⟨_, _, _, _, _, _, _, _, _, _, _, _, _, _, _, _, _, _, _, _, rfl, ⟨hl1.drew, k0, k1, k2, k3, k4⟩, (fun h => by cases h), (fun h => by cases h), (fun h => by cases h), (fun h => by cases h), (fun h => by cases h), (fun h => by cases h), (fun h => by cases h), (fun h => by cases h), (fun h => by cases h), (fun h => by cases h), (fun h => by cases h), (fun h => by cases h), (fun h => by cases h), (fun h => by cases h), (fun h => by cases h), (fun h => by cases h), (fun h => by cases h), (fun h => by cases h), (fun h => by cases h), (fun h => by cases h)⟩
    case hend =>
      intro D a V hD hI
      obtain ⟨y2, x3, x4, x5, x6, x7, x8, x9, x10, x11, x12, x13, x14, x15, x16, x17, x18, x19, x20, x21, rfl, ⟨hl, -⟩, -, -, -, -, -, -, -, -, -, -, -, -, -, -, -, -, -, -, -, hf⟩ := hI
      exact hKK _ _ (Met.intro (hJ _ _ ⟨_, _, _, _, _, _, _, _, _, _, _, _, _, _, _, _, _, _, _, _, ⟨hf (hD 19 (by decide)), hl⟩, rfl⟩))
    case hstep =>
      intro i D a V hi hD hdep hI
      obtain ⟨y2, x3, x4, x5, x6, x7, x8, x9, x10, x11, x12, x13, x14, x15, x16, x17, x18, x19, x20, x21, rfl, ⟨hl, k0, k1, k2, k3, k4⟩, f0, f1, f2, f3, f4, f5, f6, f7, f8, f9, f10, f11, f12, f13, f14, f15, f16, f17, f18, f19⟩ := hI
      have hi' : i = 0 ∨ i = 1 ∨ i = 2 ∨ i = 3 ∨ i = 4 ∨ i = 5 ∨ i = 6 ∨ i = 7 ∨ i = 8 ∨ i = 9 ∨ i = 10 ∨ i = 11 ∨ i = 12 ∨ i = 13 ∨ i = 14 ∨ i = 15 ∨ i = 16 ∨ i = 17 ∨ i = 18 ∨ i = 19 := by
        have : i < 20 := hi
        omega
      rcases hi' with rfl | rfl | rfl | rfl | rfl | rfl | rfl | rfl | rfl | rfl | rfl | rfl | rfl | rfl | rfl | rfl | rfl | rfl | rfl | rfl
      · refine wpOp_step rfl (fun K' hK => ?_)
        rw [if_pos (by rfl)]
        go_simp
        exact hK _ _ ⟨_, _, _, _, _, _, _, _, _, _, _, _, _, _, _, _, _, _, _, _, rfl, ⟨hl, k0, k1, k2, k3, k4⟩, fun _ => rfl, fun h => f1 (by simpa [updD] using h), fun h => f2 (by simpa [updD] using h), fun h => f3 (by simpa [updD] using h), fun h => f4 (by simpa [updD] using h), fun h => f5 (by simpa [updD] using h), fun h => f6 (by simpa [updD] using h), fun h => f7 (by simpa [updD] using h), fun h => f8 (by simpa [updD] using h), fun h => f9 (by simpa [updD] using h), fun h => f10 (by simpa [updD] using h), fun h => f11 (by simpa [updD] using h), fun h => f12 (by simpa [updD] using h), fun h => f13 (by simpa [updD] using h), fun h => f14 (by simpa [updD] using h), fun h => f15 (by simpa [updD] using h), fun h => f16 (by simpa [updD] using h), fun h => f17 (by simpa [updD] using h), fun h => f18 (by simpa [updD] using h), fun h => f19 (by simpa [updD] using h)⟩
      · have g0 := f0 (hdep 0 (by kernel_rfl))
        subst g0
        refine wpOp_step rfl (fun K' hK => ?_)
        rw [if_pos (by rfl)]
        go_simp
        exact hK _ _ ⟨_, _, _, _, _, _, _, _, _, _, _, _, _, _, _, _, _, _, _, _, rfl, ⟨hl, k0, k1, k2, k3, k4⟩, fun h => f0 (by simpa [updD] using h), fun _ => rfl, fun h => f2 (by simpa [updD] using h), fun h => f3 (by simpa [updD] using h), fun h => f4 (by simpa [updD] using h), fun h => f5 (by simpa [updD] using h), fun h => f6 (by simpa [updD] using h), fun h => f7 (by simpa [updD] using h), fun h => f8 (by simpa [updD] using h), fun h => f9 (by simpa [updD] using h), fun h => f10 (by simpa [updD] using h), fun h => f11 (by simpa [updD] using h), fun h => f12 (by simpa [updD] using h), fun h => f13 (by simpa [updD] using h), fun h => f14 (by simpa [updD] using h), fun h => f15 (by simpa [updD] using h), fun h => f16 (by simpa [updD] using h), fun h => f17 (by simpa [updD] using h), fun h => f18 (by simpa [updD] using h), fun h => f19 (by simpa [updD] using h)⟩
      · have g1 := f1 (hdep 1 (by kernel_rfl))
        subst g1
        refine wpOp_step rfl (fun K' hK => ?_)
        rw [if_pos (by rfl)]
        go_simp
        refine (digits25_is n2 h2 V).mono ?_
        rintro e V2 ⟨v, rfl, hd, hl2⟩
        exact hK _ _ ⟨_, _, _, _, _, _, _, _, _, _, _, _, _, _, _, _, _, _, _, _, rfl, ⟨hl.trans hl2, cell_at hl2 k0 (World.block_lt_of_cell? _ _ k0), cell_at hl2 k1 (World.block_lt_of_cell? _ _ k1), cell_at hl2 k2 (World.block_lt_of_cell? _ _ k2), cell_at hl2 k3 (World.block_lt_of_cell? _ _ k3), cell_at hl2 k4 (World.block_lt_of_cell? _ _ k4)⟩, fun h => f0 (by simpa [updD] using h), fun h => f1 (by simpa [updD] using h), fun _ => hd, fun h => f3 (by simpa [updD] using h), fun h => f4 (by simpa [updD] using h), fun h => (f5 (by simpa [updD] using h)).later hl2, fun h => (f6 (by simpa [updD] using h)).later hl2, fun h => f7 (by simpa [updD] using h), fun h => f8 (by simpa [updD] using h), fun h => (f9 (by simpa [updD] using h)).later hl2, fun h => (f10 (by simpa [updD] using h)).later hl2, fun h => f11 (by simpa [updD] using h), fun h => f12 (by simpa [updD] using h), fun h => (f13 (by simpa [updD] using h)).later hl2, fun h => (f14 (by simpa [updD] using h)).later hl2, fun h => f15 (by simpa [updD] using h), fun h => f16 (by simpa [updD] using h), fun h => (f17 (by simpa [updD] using h)).later hl2, fun h => (f18 (by simpa [updD] using h)).later hl2, fun h => (f19 (by simpa [updD] using h)).later hl2⟩
      · refine wpOp_step rfl (fun K' hK => ?_)
        rw [if_pos (by rfl)]
        go_simp
        exact hK _ _ ⟨_, _, _, _, _, _, _, _, _, _, _, _, _, _, _, _, _, _, _, _, rfl, ⟨hl, k0, k1, k2, k3, k4⟩, fun h => f0 (by simpa [updD] using h), fun h => f1 (by simpa [updD] using h), fun h => f2 (by simpa [updD] using h), fun _ => rfl, fun h => f4 (by simpa [updD] using h), fun h => f5 (by simpa [updD] using h), fun h => f6 (by simpa [updD] using h), fun h => f7 (by simpa [updD] using h), fun h => f8 (by simpa [updD] using h), fun h => f9 (by simpa [updD] using h), fun h => f10 (by simpa [updD] using h), fun h => f11 (by simpa [updD] using h), fun h => f12 (by simpa [updD] using h), fun h => f13 (by simpa [updD] using h), fun h => f14 (by simpa [updD] using h), fun h => f15 (by simpa [updD] using h), fun h => f16 (by simpa [updD] using h), fun h => f17 (by simpa [updD] using h), fun h => f18 (by simpa [updD] using h), fun h => f19 (by simpa [updD] using h)⟩
      · have g3 := f3 (hdep 3 (by kernel_rfl))
        subst g3
        refine wpOp_step rfl (fun K' hK => ?_)
        rw [if_pos (by rfl)]
        go_simp
        exact hK _ _ ⟨_, _, _, _, _, _, _, _, _, _, _, _, _, _, _, _, _, _, _, _, rfl, ⟨hl, k0, k1, k2, k3, k4⟩, fun h => f0 (by simpa [updD] using h), fun h => f1 (by simpa [updD] using h), fun h => f2 (by simpa [updD] using h), fun h => f3 (by simpa [updD] using h), fun _ => rfl, fun h => f5 (by simpa [updD] using h), fun h => f6 (by simpa [updD] using h), fun h => f7 (by simpa [updD] using h), fun h => f8 (by simpa [updD] using h), fun h => f9 (by simpa [updD] using h), fun h => f10 (by simpa [updD] using h), fun h => f11 (by simpa [updD] using h), fun h => f12 (by simpa [updD] using h), fun h => f13 (by simpa [updD] using h), fun h => f14 (by simpa [updD] using h), fun h => f15 (by simpa [updD] using h), fun h => f16 (by simpa [updD] using h), fun h => f17 (by simpa [updD] using h), fun h => f18 (by simpa [updD] using h), fun h => f19 (by simpa [updD] using h)⟩
      · have g4 := f4 (hdep 4 (by kernel_rfl))
        subst g4
        refine wpOp_step rfl (fun K' hK => ?_)
        rw [if_pos (by rfl)]
        go_simp
        refine (digits25_is n3 h3 V).mono ?_
        rintro e V2 ⟨v, rfl, hd, hl2⟩
        exact hK _ _ ⟨_, _, _, _, _, _, _, _, _, _, _, _, _, _, _, _, _, _, _, _, rfl, ⟨hl.trans hl2, cell_at hl2 k0 (World.block_lt_of_cell? _ _ k0), cell_at hl2 k1 (World.block_lt_of_cell? _ _ k1), cell_at hl2 k2 (World.block_lt_of_cell? _ _ k2), cell_at hl2 k3 (World.block_lt_of_cell? _ _ k3), cell_at hl2 k4 (World.block_lt_of_cell? _ _ k4)⟩, fun h => f0 (by simpa [updD] using h), fun h => f1 (by simpa [updD] using h), fun h => (f2 (by simpa [updD] using h)).later hl2, fun h => f3 (by simpa [updD] using h), fun h => f4 (by simpa [updD] using h), fun _ => hd, fun h => (f6 (by simpa [updD] using h)).later hl2, fun h => f7 (by simpa [updD] using h), fun h => f8 (by simpa [updD] using h), fun h => (f9 (by simpa [updD] using h)).later hl2, fun h => (f10 (by simpa [updD] using h)).later hl2, fun h => f11 (by simpa [updD] using h), fun h => f12 (by simpa [updD] using h), fun h => (f13 (by simpa [updD] using h)).later hl2, fun h => (f14 (by simpa [updD] using h)).later hl2, fun h => f15 (by simpa [updD] using h), fun h => f16 (by simpa [updD] using h), fun h => (f17 (by simpa [updD] using h)).later hl2, fun h => (f18 (by simpa [updD] using h)).later hl2, fun h => (f19 (by simpa [updD] using h)).later hl2⟩
      · have g2 := f2 (hdep 2 (by kernel_rfl))
        have g5 := f5 (hdep 5 (by kernel_rfl))
        refine wpOp_step rfl (fun K' hK => ?_)
        rw [if_pos (by rfl)]
        go_simp
        refine (sum25_is (n2) (n3) _ _ V g2 g5 (by rw [hpow]; omega)).mono ?_
        rintro e V2 ⟨v, rfl, hd, hl2⟩
        exact hK _ _ ⟨_, _, _, _, _, _, _, _, _, _, _, _, _, _, _, _, _, _, _, _, rfl, ⟨hl.trans hl2, cell_at hl2 k0 (World.block_lt_of_cell? _ _ k0), cell_at hl2 k1 (World.block_lt_of_cell? _ _ k1), cell_at hl2 k2 (World.block_lt_of_cell? _ _ k2), cell_at hl2 k3 (World.block_lt_of_cell? _ _ k3), cell_at hl2 k4 (World.block_lt_of_cell? _ _ k4)⟩, fun h => f0 (by simpa [updD] using h), fun h => f1 (by simpa [updD] using h), fun h => (f2 (by simpa [updD] using h)).later hl2, fun h => f3 (by simpa [updD] using h), fun h => f4 (by simpa [updD] using h), fun h => (f5 (by simpa [updD] using h)).later hl2, fun _ => hd, fun h => f7 (by simpa [updD] using h), fun h => f8 (by simpa [updD] using h), fun h => (f9 (by simpa [updD] using h)).later hl2, fun h => (f10 (by simpa [updD] using h)).later hl2, fun h => f11 (by simpa [updD] using h), fun h => f12 (by simpa [updD] using h), fun h => (f13 (by simpa [updD] using h)).later hl2, fun h => (f14 (by simpa [updD] using h)).later hl2, fun h => f15 (by simpa [updD] using h), fun h => f16 (by simpa [updD] using h), fun h => (f17 (by simpa [updD] using h)).later hl2, fun h => (f18 (by simpa [updD] using h)).later hl2, fun h => (f19 (by simpa [updD] using h)).later hl2⟩
      · refine wpOp_step rfl (fun K' hK => ?_)
        rw [if_pos (by rfl)]
        go_simp
        exact hK _ _ ⟨_, _, _, _, _, _, _, _, _, _, _, _, _, _, _, _, _, _, _, _, rfl, ⟨hl, k0, k1, k2, k3, k4⟩, fun h => f0 (by simpa [updD] using h), fun h => f1 (by simpa [updD] using h), fun h => f2 (by simpa [updD] using h), fun h => f3 (by simpa [updD] using h), fun h => f4 (by simpa [updD] using h), fun h => f5 (by simpa [updD] using h), fun h => f6 (by simpa [updD] using h), fun _ => rfl, fun h => f8 (by simpa [updD] using h), fun h => f9 (by simpa [updD] using h), fun h => f10 (by simpa [updD] using h), fun h => f11 (by simpa [updD] using h), fun h => f12 (by simpa [updD] using h), fun h => f13 (by simpa [updD] using h), fun h => f14 (by simpa [updD] using h), fun h => f15 (by simpa [updD] using h), fun h => f16 (by simpa [updD] using h), fun h => f17 (by simpa [updD] using h), fun h => f18 (by simpa [updD] using h), fun h => f19 (by simpa [updD] using h)⟩
      · have g7 := f7 (hdep 7 (by kernel_rfl))
        subst g7
        refine wpOp_step rfl (fun K' hK => ?_)
        rw [if_pos (by rfl)]
        go_simp
        exact hK _ _ ⟨_, _, _, _, _, _, _, _, _, _, _, _, _, _, _, _, _, _, _, _, rfl, ⟨hl, k0, k1, k2, k3, k4⟩, fun h => f0 (by simpa [updD] using h), fun h => f1 (by simpa [updD] using h), fun h => f2 (by simpa [updD] using h), fun h => f3 (by simpa [updD] using h), fun h => f4 (by simpa [updD] using h), fun h => f5 (by simpa [updD] using h), fun h => f6 (by simpa [updD] using h), fun h => f7 (by simpa [updD] using h), fun _ => rfl, fun h => f9 (by simpa [updD] using h), fun h => f10 (by simpa [updD] using h), fun h => f11 (by simpa [updD] using h), fun h => f12 (by simpa [updD] using h), fun h => f13 (by simpa [updD] using h), fun h => f14 (by simpa [updD] using h), fun h => f15 (by simpa [updD] using h), fun h => f16 (by simpa [updD] using h), fun h => f17 (by simpa [updD] using h), fun h => f18 (by simpa [updD] using h), fun h => f19 (by simpa [updD] using h)⟩
      · have g8 := f8 (hdep 8 (by kernel_rfl))
        subst g8
        refine wpOp_step rfl (fun K' hK => ?_)
        rw [if_pos (by rfl)]
        go_simp
        refine (digits25_is n4 h4 V).mono ?_
        rintro e V2 ⟨v, rfl, hd, hl2⟩
        exact hK _ _ ⟨_, _, _, _, _, _, _, _, _, _, _, _, _, _, _, _, _, _, _, _, rfl, ⟨hl.trans hl2, cell_at hl2 k0 (World.block_lt_of_cell? _ _ k0), cell_at hl2 k1 (World.block_lt_of_cell? _ _ k1), cell_at hl2 k2 (World.block_lt_of_cell? _ _ k2), cell_at hl2 k3 (World.block_lt_of_cell? _ _ k3), cell_at hl2 k4 (World.block_lt_of_cell? _ _ k4)⟩, fun h => f0 (by simpa [updD] using h), fun h => f1 (by simpa [updD] using h), fun h => (f2 (by simpa [updD] using h)).later hl2, fun h => f3 (by simpa [updD] using h), fun h => f4 (by simpa [updD] using h), fun h => (f5 (by simpa [updD] using h)).later hl2, fun h => (f6 (by simpa [updD] using h)).later hl2, fun h => f7 (by simpa [updD] using h), fun h => f8 (by simpa [updD] using h), fun _ => hd, fun h => (f10 (by simpa [updD] using h)).later hl2, fun h => f11 (by simpa [updD] using h), fun h => f12 (by simpa [updD] using h), fun h => (f13 (by simpa [updD] using h)).later hl2, fun h => (f14 (by simpa [updD] using h)).later hl2, fun h => f15 (by simpa [updD] using h), fun h => f16 (by simpa [updD] using h), fun h => (f17 (by simpa [updD] using h)).later hl2, fun h => (f18 (by simpa [updD] using h)).later hl2, fun h => (f19 (by simpa [updD] using h)).later hl2⟩
      · have g6 := f6 (hdep 6 (by kernel_rfl))
        have g9 := f9 (hdep 9 (by kernel_rfl))
        refine wpOp_step rfl (fun K' hK => ?_)
        rw [if_pos (by rfl)]
        go_simp
        refine (sum25_is (n2 + n3) (n4) _ _ V g6 g9 (by rw [hpow]; omega)).mono ?_
        rintro e V2 ⟨v, rfl, hd, hl2⟩
        exact hK _ _ ⟨_, _, _, _, _, _, _, _, _, _, _, _, _, _, _, _, _, _, _, _, rfl, ⟨hl.trans hl2, cell_at hl2 k0 (World.block_lt_of_cell? _ _ k0), cell_at hl2 k1 (World.block_lt_of_cell? _ _ k1), cell_at hl2 k2 (World.block_lt_of_cell? _ _ k2), cell_at hl2 k3 (World.block_lt_of_cell? _ _ k3), cell_at hl2 k4 (World.block_lt_of_cell? _ _ k4)⟩, fun h => f0 (by simpa [updD] using h), fun h => f1 (by simpa [updD] using h), fun h => (f2 (by simpa [updD] using h)).later hl2, fun h => f3 (by simpa [updD] using h), fun h => f4 (by simpa [updD] using h), fun h => (f5 (by simpa [updD] using h)).later hl2, fun h => (f6 (by simpa [updD] using h)).later hl2, fun h => f7 (by simpa [updD] using h), fun h => f8 (by simpa [updD] using h), fun h => (f9 (by simpa [updD] using h)).later hl2, fun _ => hd, fun h => f11 (by simpa [updD] using h), fun h => f12 (by simpa [updD] using h), fun h => (f13 (by simpa [updD] using h)).later hl2, fun h => (f14 (by simpa [updD] using h)).later hl2, fun h => f15 (by simpa [updD] using h), fun h => f16 (by simpa [updD] using h), fun h => (f17 (by simpa [updD] using h)).later hl2, fun h => (f18 (by simpa [updD] using h)).later hl2, fun h => (f19 (by simpa [updD] using h)).later hl2⟩
      · refine wpOp_step rfl (fun K' hK => ?_)
        rw [if_pos (by rfl)]
        go_simp
        exact hK _ _ ⟨_, _, _, _, _, _, _, _, _, _, _, _, _, _, _, _, _, _, _, _, rfl, ⟨hl, k0, k1, k2, k3, k4⟩, fun h => f0 (by simpa [updD] using h), fun h => f1 (by simpa [updD] using h), fun h => f2 (by simpa [updD] using h), fun h => f3 (by simpa [updD] using h), fun h => f4 (by simpa [updD] using h), fun h => f5 (by simpa [updD] using h), fun h => f6 (by simpa [updD] using h), fun h => f7 (by simpa [updD] using h), fun h => f8 (by simpa [updD] using h), fun h => f9 (by simpa [updD] using h), fun h => f10 (by simpa [updD] using h), fun _ => rfl, fun h => f12 (by simpa [updD] using h), fun h => f13 (by simpa [updD] using h), fun h => f14 (by simpa [updD] using h), fun h => f15 (by simpa [updD] using h), fun h => f16 (by simpa [updD] using h), fun h => f17 (by simpa [updD] using h), fun h => f18 (by simpa [updD] using h), fun h => f19 (by simpa [updD] using h)⟩
      · have g11 := f11 (hdep 11 (by kernel_rfl))
        subst g11
        refine wpOp_step rfl (fun K' hK => ?_)
        rw [if_pos (by rfl)]
        go_simp
        exact hK _ _ ⟨_, _, _, _, _, _, _, _, _, _, _, _, _, _, _, _, _, _, _, _, rfl, ⟨hl, k0, k1, k2, k3, k4⟩, fun h => f0 (by simpa [updD] using h), fun h => f1 (by simpa [updD] using h), fun h => f2 (by simpa [updD] using h), fun h => f3 (by simpa [updD] using h), fun h => f4 (by simpa [updD] using h), fun h => f5 (by simpa [updD] using h), fun h => f6 (by simpa [updD] using h), fun h => f7 (by simpa [updD] using h), fun h => f8 (by simpa [updD] using h), fun h => f9 (by simpa [updD] using h), fun h => f10 (by simpa [updD] using h), fun h => f11 (by simpa [updD] using h), fun _ => rfl, fun h => f13 (by simpa [updD] using h), fun h => f14 (by simpa [updD] using h), fun h => f15 (by simpa [updD] using h), fun h => f16 (by simpa [updD] using h), fun h => f17 (by simpa [updD] using h), fun h => f18 (by simpa [updD] using h), fun h => f19 (by simpa [updD] using h)⟩
      · have g12 := f12 (hdep 12 (by kernel_rfl))
        subst g12
        refine wpOp_step rfl (fun K' hK => ?_)
        rw [if_pos (by rfl)]
        go_simp
        refine (digits25_is n5 h5 V).mono ?_
        rintro e V2 ⟨v, rfl, hd, hl2⟩
        exact hK _ _ ⟨_, _, _, _, _, _, _, _, _, _, _, _, _, _, _, _, _, _, _, _, rfl, ⟨hl.trans hl2, cell_at hl2 k0 (World.block_lt_of_cell? _ _ k0), cell_at hl2 k1 (World.block_lt_of_cell? _ _ k1), cell_at hl2 k2 (World.block_lt_of_cell? _ _ k2), cell_at hl2 k3 (World.block_lt_of_cell? _ _ k3), cell_at hl2 k4 (World.block_lt_of_cell? _ _ k4)⟩, fun h => f0 (by simpa [updD] using h), fun h => f1 (by simpa [updD] using h), fun h => (f2 (by simpa [updD] using h)).later hl2, fun h => f3 (by simpa [updD] using h), fun h => f4 (by simpa [updD] using h), fun h => (f5 (by simpa [updD] using h)).later hl2, fun h => (f6 (by simpa [updD] using h)).later hl2, fun h => f7 (by simpa [updD] using h), fun h => f8 (by simpa [updD] using h), fun h => (f9 (by simpa [updD] using h)).later hl2, fun h => (f10 (by simpa [updD] using h)).later hl2, fun h => f11 (by simpa [updD] using h), fun h => f12 (by simpa [updD] using h), fun _ => hd, fun h => (f14 (by simpa [updD] using h)).later hl2, fun h => f15 (by simpa [updD] using h), fun h => f16 (by simpa [updD] using h), fun h => (f17 (by simpa [updD] using h)).later hl2, fun h => (f18 (by simpa [updD] using h)).later hl2, fun h => (f19 (by simpa [updD] using h)).later hl2⟩
      · have g10 := f10 (hdep 10 (by kernel_rfl))
        have g13 := f13 (hdep 13 (by kernel_rfl))
        refine wpOp_step rfl (fun K' hK => ?_)
        rw [if_pos (by rfl)]
        go_simp
        refine (sum25_is (n2 + n3 + n4) (n5) _ _ V g10 g13 (by rw [hpow]; omega)).mono ?_
        rintro e V2 ⟨v, rfl, hd, hl2⟩
        exact hK _ _ ⟨_, _, _, _, _, _, _, _, _, _, _, _, _, _, _, _, _, _, _, _, rfl, ⟨hl.trans hl2, cell_at hl2 k0 (World.block_lt_of_cell? _ _ k0), cell_at hl2 k1 (World.block_lt_of_cell? _ _ k1), cell_at hl2 k2 (World.block_lt_of_cell? _ _ k2), cell_at hl2 k3 (World.block_lt_of_cell? _ _ k3), cell_at hl2 k4 (World.block_lt_of_cell? _ _ k4)⟩, fun h => f0 (by simpa [updD] using h), fun h => f1 (by simpa [updD] using h), fun h => (f2 (by simpa [updD] using h)).later hl2, fun h => f3 (by simpa [updD] using h), fun h => f4 (by simpa [updD] using h), fun h => (f5 (by simpa [updD] using h)).later hl2, fun h => (f6 (by simpa [updD] using h)).later hl2, fun h => f7 (by simpa [updD] using h), fun h => f8 (by simpa [updD] using h), fun h => (f9 (by simpa [updD] using h)).later hl2, fun h => (f10 (by simpa [updD] using h)).later hl2, fun h => f11 (by simpa [updD] using h), fun h => f12 (by simpa [updD] using h), fun h => (f13 (by simpa [updD] using h)).later hl2, fun _ => hd, fun h => f15 (by simpa [updD] using h), fun h => f16 (by simpa [updD] using h), fun h => (f17 (by simpa [updD] using h)).later hl2, fun h => (f18 (by simpa [updD] using h)).later hl2, fun h => (f19 (by simpa [updD] using h)).later hl2⟩
      · refine wpOp_step rfl (fun K' hK => ?_)
        rw [if_pos (by rfl)]
        go_simp
        exact hK _ _ ⟨_, _, _, _, _, _, _, _, _, _, _, _, _, _, _, _, _, _, _, _, rfl, ⟨hl, k0, k1, k2, k3, k4⟩, fun h => f0 (by simpa [updD] using h), fun h => f1 (by simpa [updD] using h), fun h => f2 (by simpa [updD] using h), fun h => f3 (by simpa [updD] using h), fun h => f4 (by simpa [updD] using h), fun h => f5 (by simpa [updD] using h), fun h => f6 (by simpa [updD] using h), fun h => f7 (by simpa [updD] using h), fun h => f8 (by simpa [updD] using h), fun h => f9 (by simpa [updD] using h), fun h => f10 (by simpa [updD] using h), fun h => f11 (by simpa [updD] using h), fun h => f12 (by simpa [updD] using h), fun h => f13 (by simpa [updD] using h), fun h => f14 (by simpa [updD] using h), fun _ => rfl, fun h => f16 (by simpa [updD] using h), fun h => f17 (by simpa [updD] using h), fun h => f18 (by simpa [updD] using h), fun h => f19 (by simpa [updD] using h)⟩
      · have g15 := f15 (hdep 15 (by kernel_rfl))
        subst g15
        refine wpOp_step rfl (fun K' hK => ?_)
        rw [if_pos (by rfl)]
        go_simp
        exact hK _ _ ⟨_, _, _, _, _, _, _, _, _, _, _, _, _, _, _, _, _, _, _, _, rfl, ⟨hl, k0, k1, k2, k3, k4⟩, fun h => f0 (by simpa [updD] using h), fun h => f1 (by simpa [updD] using h), fun h => f2 (by simpa [updD] using h), fun h => f3 (by simpa [updD] using h), fun h => f4 (by simpa [updD] using h), fun h => f5 (by simpa [updD] using h), fun h => f6 (by simpa [updD] using h), fun h => f7 (by simpa [updD] using h), fun h => f8 (by simpa [updD] using h), fun h => f9 (by simpa [updD] using h), fun h => f10 (by simpa [updD] using h), fun h => f11 (by simpa [updD] using h), fun h => f12 (by simpa [updD] using h), fun h => f13 (by simpa [updD] using h), fun h => f14 (by simpa [updD] using h), fun h => f15 (by simpa [updD] using h), fun _ => rfl, fun h => f17 (by simpa [updD] using h), fun h => f18 (by simpa [updD] using h), fun h => f19 (by simpa [updD] using h)⟩
      · have g16 := f16 (hdep 16 (by kernel_rfl))
        subst g16
        refine wpOp_step rfl (fun K' hK => ?_)
        rw [if_pos (by rfl)]
        go_simp
        refine (digits25_is n6 h6 V).mono ?_
        rintro e V2 ⟨v, rfl, hd, hl2⟩
        exact hK _ _ ⟨_, _, _, _, _, _, _, _, _, _, _, _, _, _, _, _, _, _, _, _, rfl, ⟨hl.trans hl2, cell_at hl2 k0 (World.block_lt_of_cell? _ _ k0), cell_at hl2 k1 (World.block_lt_of_cell? _ _ k1), cell_at hl2 k2 (World.block_lt_of_cell? _ _ k2), cell_at hl2 k3 (World.block_lt_of_cell? _ _ k3), cell_at hl2 k4 (World.block_lt_of_cell? _ _ k4)⟩, fun h => f0 (by simpa [updD] using h), fun h => f1 (by simpa [updD] using h), fun h => (f2 (by simpa [updD] using h)).later hl2, fun h => f3 (by simpa [updD] using h), fun h => f4 (by simpa [updD] using h), fun h => (f5 (by simpa [updD] using h)).later hl2, fun h => (f6 (by simpa [updD] using h)).later hl2, fun h => f7 (by simpa [updD] using h), fun h => f8 (by simpa [updD] using h), fun h => (f9 (by simpa [updD] using h)).later hl2, fun h => (f10 (by simpa [updD] using h)).later hl2, fun h => f11 (by simpa [updD] using h), fun h => f12 (by simpa [updD] using h), fun h => (f13 (by simpa [updD] using h)).later hl2, fun h => (f14 (by simpa [updD] using h)).later hl2, fun h => f15 (by simpa [updD] using h), fun h => f16 (by simpa [updD] using h), fun _ => hd, fun h => (f18 (by simpa [updD] using h)).later hl2, fun h => (f19 (by simpa [updD] using h)).later hl2⟩
      · have g14 := f14 (hdep 14 (by kernel_rfl))
        have g17 := f17 (hdep 17 (by kernel_rfl))
        refine wpOp_step rfl (fun K' hK => ?_)
        rw [if_pos (by rfl)]
        go_simp
        refine (sum25_is (n2 + n3 + n4 + n5) (n6) _ _ V g14 g17 (by rw [hpow]; omega)).mono ?_
        rintro e V2 ⟨v, rfl, hd, hl2⟩
        exact hK _ _ ⟨_, _, _, _, _, _, _, _, _, _, _, _, _, _, _, _, _, _, _, _, rfl, ⟨hl.trans hl2, cell_at hl2 k0 (World.block_lt_of_cell? _ _ k0), cell_at hl2 k1 (World.block_lt_of_cell? _ _ k1), cell_at hl2 k2 (World.block_lt_of_cell? _ _ k2), cell_at hl2 k3 (World.block_lt_of_cell? _ _ k3), cell_at hl2 k4 (World.block_lt_of_cell? _ _ k4)⟩, fun h => f0 (by simpa [updD] using h), fun h => f1 (by simpa [updD] using h), fun h => (f2 (by simpa [updD] using h)).later hl2, fun h => f3 (by simpa [updD] using h), fun h => f4 (by simpa [updD] using h), fun h => (f5 (by simpa [updD] using h)).later hl2, fun h => (f6 (by simpa [updD] using h)).later hl2, fun h => f7 (by simpa [updD] using h), fun h => f8 (by simpa [updD] using h), fun h => (f9 (by simpa [updD] using h)).later hl2, fun h => (f10 (by simpa [updD] using h)).later hl2, fun h => f11 (by simpa [updD] using h), fun h => f12 (by simpa [updD] using h), fun h => (f13 (by simpa [updD] using h)).later hl2, fun h => (f14 (by simpa [updD] using h)).later hl2, fun h => f15 (by simpa [updD] using h), fun h => f16 (by simpa [updD] using h), fun h => (f17 (by simpa [updD] using h)).later hl2, fun _ => hd, fun h => (f19 (by simpa [updD] using h)).later hl2⟩
      · have g18 := f18 (hdep 18 (by kernel_rfl))
        refine wpOp_step rfl (fun K' hK => ?_)
        rw [if_pos (by rfl)]
        go_simp
        exact hK _ _ ⟨_, _, _, _, _, _, _, _, _, _, _, _, _, _, _, _, _, _, _, _, rfl, ⟨hl, k0, k1, k2, k3, k4⟩, fun h => f0 (by simpa [updD] using h), fun h => f1 (by simpa [updD] using h), fun h => f2 (by simpa [updD] using h), fun h => f3 (by simpa [updD] using h), fun h => f4 (by simpa [updD] using h), fun h => f5 (by simpa [updD] using h), fun h => f6 (by simpa [updD] using h), fun h => f7 (by simpa [updD] using h), fun h => f8 (by simpa [updD] using h), fun h => f9 (by simpa [updD] using h), fun h => f10 (by simpa [updD] using h), fun h => f11 (by simpa [updD] using h), fun h => f12 (by simpa [updD] using h), fun h => f13 (by simpa [updD] using h), fun h => f14 (by simpa [updD] using h), fun h => f15 (by simpa [updD] using h), fun h => f16 (by simpa [updD] using h), fun h => f17 (by simpa [updD] using h), fun h => f18 (by simpa [updD] using h), fun _ => g18⟩
  case rest =>
    clear k0 k1 k2 k3 k4 hl1
    have H := Lib.hid hcut
    clear hcut
    go_wp2_with fail
    go_ret
    exact ⟨_, rfl, H.out⟩
end Go.Proofs.YthohoendjipleaaGreatDoor
