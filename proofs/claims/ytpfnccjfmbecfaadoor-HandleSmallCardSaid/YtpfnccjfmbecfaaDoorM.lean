/-
  handle.Read, walked: a text of three parts. Conditions: the text is short; the listed variables read as laid.
-/
import Derived.Test.YtpfnccjfmbecfaaDoorL
namespace Go.Proofs.YtpfnccjfmbecfaaDoor
open Go.RowKit Go.Sort Go.Lib

/-- what Read keeps: the results' cell, the third part, the handle's cell -/
def RInv (w V : World) (R L Hb : Nat) (v0 v1 z : Int) (c : List UInt8) : Prop :=
  Later w V ∧ (w.heap.size ≤ R ∧ R < L ∧ L < Hb ∧ Hb < V.heap.size) ∧ (V.cell? ⟨R, 0, none⟩ = some (.int .i64 0) ∧ V.cell? ⟨R, 1, none⟩ = some (.int .u32 0) ∧ V.cell? ⟨R, 2, none⟩ = some (.int .u8 0)) ∧
  (V.frozen? ⟨R, 0, none⟩ = false ∧ V.frozen? ⟨R, 1, none⟩ = false ∧ V.frozen? ⟨R, 2, none⟩ = false) ∧ V.cell? ⟨L, 2, none⟩ = some (.string ⟨c.toArray⟩) ∧
  (V.cell? ⟨Hb, 0, none⟩ = some (.int .i64 v0) ∧ V.cell? ⟨Hb, 1, none⟩ = some (.int .u32 v1) ∧ V.cell? ⟨Hb, 2, none⟩ = some (.int .u8 z)) ∧ V.frozen? ⟨Hb, 2, none⟩ = false
theorem RInv.later {w V U : World} {R L Hb : Nat} {v0 v1 z : Int} {c : List UInt8} (h : RInv w V R L Hb v0 v1 z c) (hl : Later V U) : RInv w U R L Hb v0 v1 z c := by
  obtain ⟨h1, ⟨h2, h3, h4, h5⟩, ⟨a0, a1, a2⟩, ⟨f0, f1, f2⟩, d2, ⟨b0, b1, b2⟩, f3⟩ := h
  have hR : R < V.heap.size := by omega
  have hL : L < V.heap.size := by omega
  exact ⟨h1.trans hl, ⟨h2, h3, h4, Nat.lt_of_lt_of_le h5 hl.size⟩, ⟨cell_at hl a0 hR, cell_at hl a1 hR, cell_at hl a2 hR⟩, ⟨frz_at hl f0 hR, frz_at hl f1 hR, frz_at hl f2 hR⟩, cell_at hl d2 hL, ⟨cell_at hl b0 h5, cell_at hl b1 h5, cell_at hl b2 h5⟩, frz_at hl f3 h5⟩
theorem RInv.store {w V : World} {R L Hb : Nat} {v0 v1 z : Int} {c : List UInt8} (h : RInv w V R L Hb v0 v1 z c) (y : Int) : RInv w (V.setCell ⟨Hb, 2, none⟩ (.int .u8 y)) R L Hb v0 v1 y c := by
  obtain ⟨h1, ⟨h2, h3, h4, h5⟩, ⟨a0, a1, a2⟩, ⟨f0, f1, f2⟩, d2, ⟨b0, b1, b2⟩, f3⟩ := h
  refine ⟨h1.setCell _ _ (by show w.heap.size ≤ Hb; omega), ⟨h2, h3, h4, by simpa using h5⟩, ⟨?_, ?_, ?_⟩, ⟨by simpa using f0, by simpa using f1, by simpa using f2⟩, ?_, ⟨?_, ?_, World.cell?_setCell_same V _ _ b2⟩, by simpa using f3⟩
  · exact (World.cell?_setCell_other V _ _ _ (by intro h; injection h with h; omega)).trans a0
  · exact (World.cell?_setCell_other V _ _ _ (by intro h; injection h with h; omega)).trans a1
  · exact (World.cell?_setCell_other V _ _ _ (by intro h; injection h with h; omega)).trans a2
  · exact (World.cell?_setCell_other V _ _ _ (by intro h; injection h with h; omega)).trans d2
  · exact (World.cell?_setCell_other V _ _ _ (by simp)).trans b0
  · exact (World.cell?_setCell_other V _ _ _ (by simp)).trans b1

theorem rK_zero (c : List UInt8) : rK c 0 = 0 := by simp [rK]
theorem rK_step0 (c : List UInt8) (p : Bool) (hp : decide (0 ≤ Lib.indexByte c 114) = p) : (p = true → bits .or .u8 (rK c 0) 1 = rK c 1) ∧ (p = false → rK c 0 = rK c 1) := by
  subst hp
  by_cases h0 : 0 ≤ Lib.indexByte c 114 <;> by_cases h1 : 0 ≤ Lib.indexByte c 119 <;> by_cases h2 : 0 ≤ Lib.indexByte c 115 <;> simp [rK, h0, h1, h2] <;> rfl
theorem rK_step1 (c : List UInt8) (p : Bool) (hp : decide (0 ≤ Lib.indexByte c 119) = p) : (p = true → bits .or .u8 (rK c 1) 2 = rK c 2) ∧ (p = false → rK c 1 = rK c 2) := by
  subst hp
  by_cases h0 : 0 ≤ Lib.indexByte c 114 <;> by_cases h1 : 0 ≤ Lib.indexByte c 119 <;> by_cases h2 : 0 ≤ Lib.indexByte c 115 <;> simp [rK, h0, h1, h2] <;> rfl
theorem rK_step2 (c : List UInt8) (p : Bool) (hp : decide (0 ≤ Lib.indexByte c 115) = p) : (p = true → bits .or .u8 (rK c 2) 4 = rK c 3) ∧ (p = false → rK c 2 = rK c 3) := by
  subst hp
  by_cases h0 : 0 ≤ Lib.indexByte c 114 <;> by_cases h1 : 0 ≤ Lib.indexByte c 119 <;> by_cases h2 : 0 ≤ Lib.indexByte c 115 <;> simp [rK, h0, h1, h2] <;> rfl

theorem read_match (a b c : List UInt8) (ha : (46 : UInt8) ∉ a) (hb : (46 : UInt8) ∉ b) (v u : Nat) (hv : PuNum 255 a v) (hu : PuNum 4294967295 b u) (t g : Nat) (r : Int) (ho : okH t g r = true) (hg : g ≤ 4294967295) (h : a ++ 46 :: (b ++ 46 :: c) = showH t g r) : t = v ∧ g = u ∧ r = rK c 3 := by
  have h1 := (okH_iff _ _ _).1 ho
  obtain ⟨e1, e2, e3⟩ := parts_inj ha hb (decDigits_no t 46 (by decide)) (decDigits_no g 46 (by decide)) h
  exact ⟨(hv.2 t e1 (by omega)).symm, (hu.2 g e2 hg).symm, by rw [e3, rK_letters r h1.2.2]⟩

set_option maxRecDepth 100000 in
set_option maxHeartbeats 6400000 in
theorem Read_parts (a b c : List UInt8) (ha : (46 : UInt8) ∉ a) (hb : (46 : UInt8) ∉ b) (hc : (46 : UInt8) ∉ c) (hl : (a ++ 46 :: (b ++ 46 :: c)).length ≤ 1000) (x y z k : Int) (hE : ReadEnd (a ++ 46 :: (b ++ 46 :: c)) x y z k) (w : World) (hw : Laid w) :
    Calls Tryd.prog 13 #[.string ⟨(a ++ 46 :: (b ++ 46 :: c)).toArray⟩] w fun e w' => e = .returned (.tuple #[.agg #[.int .i64 x, .int .u32 y, .int .u8 z], .int .i64 k]) ∧ Later w w' := by
  have hsp := fun w1 (h1 : Laid w1) => split_is a b c ha hb hc hl w1 h1
  have hl2 : a.length + (b.length + c.length) ≤ 998 := by simp only [List.length_append, List.length_cons] at hl; omega
  have p8 := fun w1 (h1 : Laid w1) => pu8_is ⟨a.toArray⟩ (by rw [size_mk]; omega) w1 h1.2.1
  have p32 := fun w1 (h1 : Laid w1) => pu32_is ⟨b.toArray⟩ (by rw [size_mk]; omega) w1 h1.2.1
  obtain ⟨S, hS⟩ : ∃ S : ByteArray, S = ⟨(a ++ 46 :: (b ++ 46 :: c)).toArray⟩ := ⟨_, rfl⟩
  rw [← hS] at hsp ⊢
  have HS := Lib.hid hS
  have HE := Lib.hid hE
  have HN := Lib.hid (And.intro ha (And.intro hb hc))
  clear hS hE ha hb hc hl hl2
  obtain ⟨A, hA⟩ : ∃ A : ByteArray, A = ⟨a.toArray⟩ := ⟨_, rfl⟩
  obtain ⟨B, hB⟩ : ∃ B : ByteArray, B = ⟨b.toArray⟩ := ⟨_, rfl⟩
  obtain ⟨C, hC⟩ : ∃ C : ByteArray, C = ⟨c.toArray⟩ := ⟨_, rfl⟩
  rw [← hA, ← hB, ← hC] at hsp
  rw [← hA] at p8
  rw [← hB] at p32
  have HA := Lib.hid hA
  have HB := Lib.hid hB
  have HC := Lib.hid hC
  clear hA hB hC
  go_enter Tryd.func13, Tryd.ntmps13
  go_wp2_with fail
  obtain ⟨W0, hW0⟩ : ∃ W0, w.alloc (Obj.cells #[Value.int IntKind.i64 0, Value.int IntKind.u32 0, Value.int IntKind.u8 0] 27) = W0 := ⟨_, rfl⟩
  have hl0 : Later w W0 := by rw [← hW0]; exact (Later.refl w).alloc _
  have hs0 : W0.heap.size = w.heap.size + 1 := by rw [← hW0]; simp
  rw [hW0]
  refine (hsp _ (hw.later hl0)).mono ?_
  rintro e w1 ⟨rfl, hw1⟩
  obtain ⟨R, hR⟩ : ∃ R, w.heap.size = R := ⟨_, rfl⟩
  obtain ⟨L, hL⟩ : ∃ L, W0.heap.size = L := ⟨_, rfl⟩
  have hl1 : Later w w1 := by rw [hw1]; exact hl0.alloc _
  have hs1 : w1.heap.size = L + 1 := by rw [hw1, ← hL]; simp
  have hRL : R < L := by omega
  have hR1 : R < w1.heap.size := by omega
  have hL1 : L < w1.heap.size := by omega
  have a0 : w1.cell? ⟨R, 0, none⟩ = some (.int .i64 0) := by rw [hw1]; exact cell_at ((Later.refl W0).alloc _) (by rw [← hW0, ← hR]; simp) (show R < W0.heap.size by omega)
  have f0 : w1.frozen? ⟨R, 0, none⟩ = false := by rw [hw1]; exact frz_at ((Later.refl W0).alloc _) (by rw [← hW0, ← hR]; simp) (show R < W0.heap.size by omega)
  have a1 : w1.cell? ⟨R, 1, none⟩ = some (.int .u32 0) := by rw [hw1]; exact cell_at ((Later.refl W0).alloc _) (by rw [← hW0, ← hR]; simp) (show R < W0.heap.size by omega)
  have f1 : w1.frozen? ⟨R, 1, none⟩ = false := by rw [hw1]; exact frz_at ((Later.refl W0).alloc _) (by rw [← hW0, ← hR]; simp) (show R < W0.heap.size by omega)
  have a2 : w1.cell? ⟨R, 2, none⟩ = some (.int .u8 0) := by rw [hw1]; exact cell_at ((Later.refl W0).alloc _) (by rw [← hW0, ← hR]; simp) (show R < W0.heap.size by omega)
  have f2 : w1.frozen? ⟨R, 2, none⟩ = false := by rw [hw1]; exact frz_at ((Later.refl W0).alloc _) (by rw [← hW0, ← hR]; simp) (show R < W0.heap.size by omega)
  have d0 : w1.cell? ⟨L, 0, none⟩ = some (.string A) := by rw [hw1, ← hL]; simp
  have d1 : w1.cell? ⟨L, 1, none⟩ = some (.string B) := by rw [hw1, ← hL]; simp
  have d2 : w1.cell? ⟨L, 2, none⟩ = some (.string C) := by rw [hw1, ← hL]; simp
  rw [hR, hL]
  have hwR : w.heap.size ≤ R := by omega
  clear hw1 hW0 hs0 hs1 hl0 hsp hR hL
  go_wp2_with fail
  refine (p8 _ (hw.later hl1)).mono ?_
  rintro e w2 ⟨⟨v, xe, rfl, hv⟩, hb2⟩
  have a0 := cell_at hb2 a0 hR1
  have f0 := frz_at hb2 f0 hR1
  have d0 := cell_at hb2 d0 hL1
  have a1 := cell_at hb2 a1 hR1
  have f1 := frz_at hb2 f1 hR1
  have d1 := cell_at hb2 d1 hL1
  have a2 := cell_at hb2 a2 hR1
  have f2 := frz_at hb2 f2 hR1
  have d2 := cell_at hb2 d2 hL1
  have hl2 := hl1.trans hb2
  have hR2 := Nat.lt_of_lt_of_le hR1 hb2.size
  have hL2 := Nat.lt_of_lt_of_le hL1 hb2.size
  have HV := Lib.hid hv
  have vle : v ≤ 255 := hv.1
  obtain ⟨vi, hvi⟩ : ∃ vi : Int, vi = (v : Int) := ⟨_, rfl⟩
  have vi0 : 0 ≤ vi := by omega
  have vi1 : vi ≤ 255 := by omega
  rw [← hvi]
  have HVI := Lib.hid hvi
  clear hb2 hl1 hR1 hL1 hv p8 vle hvi
  go_wp2_with fail
  refine (p32 _ (hw.later hl2)).mono ?_
  rintro e w3 ⟨⟨u, ye, rfl, hu⟩, hb3⟩
  have a0 := cell_at hb3 a0 hR2
  have f0 := frz_at hb3 f0 hR2
  have d0 := cell_at hb3 d0 hL2
  have a1 := cell_at hb3 a1 hR2
  have f1 := frz_at hb3 f1 hR2
  have d1 := cell_at hb3 d1 hL2
  have a2 := cell_at hb3 a2 hR2
  have f2 := frz_at hb3 f2 hR2
  have d2 := cell_at hb3 d2 hL2
  have hl3 := hl2.trans hb3
  have hR3 := Nat.lt_of_lt_of_le hR2 hb3.size
  have hL3 := Nat.lt_of_lt_of_le hL2 hb3.size
  have HU := Lib.hid hu
  have ule : u ≤ 4294967295 := hu.1
  obtain ⟨ui, hui⟩ : ∃ ui : Int, ui = (u : Int) := ⟨_, rfl⟩
  have ui0 : 0 ≤ ui := by omega
  have ui1 : ui ≤ 4294967295 := by omega
  rw [← hui]
  have HUI := Lib.hid hui
  clear hb3 hl2 hR2 hL2 hu p32 ule hui
  go_wp2_with fail
  obtain ⟨V, hV⟩ : ∃ V, w3.alloc (Obj.cells #[Value.int IntKind.i64 vi, Value.int IntKind.u32 ui, Value.int IntKind.u8 0] 27) = V := ⟨_, rfl⟩
  obtain ⟨Hb, hHb⟩ : ∃ Hb, w3.heap.size = Hb := ⟨_, rfl⟩
  have hI : RInv w w3 R L Hb vi ui 0 c → True := fun _ => trivial
  clear hI
  have hI0 : RInv w V R L Hb vi ui (rK c 0) c := by
    have hV' : Later w3 V := by rw [← hV]; exact (Later.refl w3).alloc _
    rw [rK_zero]
    refine ⟨hl3.trans hV', ⟨hwR, hRL, by omega, by rw [← hV, ← hHb]; simp⟩, ⟨cell_at hV' a0 hR3, cell_at hV' a1 hR3, cell_at hV' a2 hR3⟩, ⟨frz_at hV' f0 hR3, frz_at hV' f1 hR3, frz_at hV' f2 hR3⟩, ?_, ⟨?_, ?_, ?_⟩, ?_⟩
    · rw [← HC.out]; exact cell_at hV' d2 hL3
    · rw [← hV, ← hHb]; simp
    · rw [← hV, ← hHb]; simp
    · rw [← hV, ← hHb]; simp
    · rw [← hV, ← hHb]; simp
  rw [hV, hHb]
  clear hV hHb hl3 hR3 hL3 a0 a1 a2 f0 f1 f2 d0 d1 d2 hwR hRL
  refine (letters_is _).mono ?_
  rintro e w4 ⟨rfl, hb4⟩
  have hI1 := hI0.later hb4
  clear hI0 hb4
  go_wp2_with fail

  have ix0 : ∀ W : World, (Instr.index 56 (.agg #[.string ⟨#[114]⟩, .string ⟨#[119]⟩, .string ⟨#[115]⟩]) (.int .i64 0)).run Tryd.prog W = .ok (.string ⟨#[114]⟩) W := fun W => by kernel_rfl
  have ix1 : ∀ W : World, (Instr.index 56 (.agg #[.string ⟨#[114]⟩, .string ⟨#[119]⟩, .string ⟨#[115]⟩]) (.int .i64 1)).run Tryd.prog W = .ok (.string ⟨#[119]⟩) W := fun W => by kernel_rfl
  have ix2 : ∀ W : World, (Instr.index 56 (.agg #[.string ⟨#[114]⟩, .string ⟨#[119]⟩, .string ⟨#[115]⟩]) (.int .i64 2)).run Tryd.prog W = .ok (.string ⟨#[115]⟩) W := fun W => by kernel_rfl
  have HW := Lib.hid hw
  clear hw
  go_loopw [40] (fun i wr => ∃ j : Nat, j ≤ 3 ∧ i = .int .i64 j ∧ RInv w wr R L Hb vi ui (rK c j) c) (fun i _ => 3 - (RowKit.intOf i).toNat)
  case atStart => exact ⟨0, by omega, rfl, hI1⟩
  case round =>
    obtain ⟨j, hj, rfl, hI⟩ := hrel
    rename World => wk
    clear hI1
    have hI' := hI
    obtain ⟨h1, ⟨h2, h3, h4, h5⟩, ⟨a0, a1, a2⟩, ⟨f0, f1, f2⟩, d2, ⟨b0, b1, b2⟩, f3⟩ := hI'
    rw [← HC.out] at d2
    have hcont := fun ch => Tryd.strings_Contains_one C ch
    rw [show C.data.toList = c by rw [HC.out]] at hcont
    have hj' : j = 0 ∨ j = 1 ∨ j = 2 ∨ j = 3 := by omega
    rcases hj' with rfl | rfl | rfl | rfl
    · obtain ⟨p, hp⟩ : ∃ p, decide (0 ≤ Lib.indexByte c 114) = p := ⟨_, rfl⟩
      have hcn := fun W1 => hcont 114 W1
      rw [hp] at hcn
      have hst := rK_step0 c p hp
      obtain ⟨Z, hZ⟩ : ∃ Z, rK c 0 = Z := ⟨_, rfl⟩
      obtain ⟨Y, hY⟩ : ∃ Y, rK c 1 = Y := ⟨_, rfl⟩
      rw [hZ] at b2 hI
      rw [hZ, hY] at hst
      have HY := Lib.hid hY
      clear hp hcont hZ hY
      cases p
      · have hs2 := hst.2 rfl
        clear hst
        go_wp2_with fail
        refine (hcn _).mono ?_
        rintro e w5 ⟨rfl, rfl⟩
        go_wp2_with fail
        go_roundw
        case rel =>
          refine ⟨1, by omega, rfl, ?_⟩
          rw [HY.out]
          rw [← hs2]; exact hI
        case measure => simp [RowKit.intOf]
      · have hs2 := hst.1 rfl
        clear hst
        go_wp2_with fail
        refine (hcn _).mono ?_
        rintro e w5 ⟨rfl, rfl⟩
        go_wp2_with fail
        go_region
        go_wp2_with fail
        go_roundw
        case rel =>
          refine ⟨1, by omega, rfl, ?_⟩
          rw [HY.out]
          exact (hI.store Y).later (Later.refl _).drew
        case measure => simp [RowKit.intOf]
    · obtain ⟨p, hp⟩ : ∃ p, decide (0 ≤ Lib.indexByte c 119) = p := ⟨_, rfl⟩
      have hcn := fun W1 => hcont 119 W1
      rw [hp] at hcn
      have hst := rK_step1 c p hp
      obtain ⟨Z, hZ⟩ : ∃ Z, rK c 1 = Z := ⟨_, rfl⟩
      obtain ⟨Y, hY⟩ : ∃ Y, rK c 2 = Y := ⟨_, rfl⟩
      rw [hZ] at b2 hI
      rw [hZ, hY] at hst
      have HY := Lib.hid hY
      clear hp hcont hZ hY
      cases p
      · have hs2 := hst.2 rfl
        clear hst
        go_wp2_with fail
        refine (hcn _).mono ?_
        rintro e w5 ⟨rfl, rfl⟩
        go_wp2_with fail
        go_roundw
        case rel =>
          refine ⟨2, by omega, rfl, ?_⟩
          rw [HY.out]
          rw [← hs2]; exact hI
        case measure => simp [RowKit.intOf]
      · have hs2 := hst.1 rfl
        clear hst
        go_wp2_with fail
        refine (hcn _).mono ?_
        rintro e w5 ⟨rfl, rfl⟩
        go_wp2_with fail
        go_region
        go_wp2_with fail
        go_roundw
        case rel =>
          refine ⟨2, by omega, rfl, ?_⟩
          rw [HY.out]
          exact (hI.store Y).later (Later.refl _).drew
        case measure => simp [RowKit.intOf]
    · obtain ⟨p, hp⟩ : ∃ p, decide (0 ≤ Lib.indexByte c 115) = p := ⟨_, rfl⟩
      have hcn := fun W1 => hcont 115 W1
      rw [hp] at hcn
      have hst := rK_step2 c p hp
      obtain ⟨Z, hZ⟩ : ∃ Z, rK c 2 = Z := ⟨_, rfl⟩
      obtain ⟨Y, hY⟩ : ∃ Y, rK c 3 = Y := ⟨_, rfl⟩
      rw [hZ] at b2 hI
      rw [hZ, hY] at hst
      have HY := Lib.hid hY
      clear hp hcont hZ hY
      cases p
      · have hs2 := hst.2 rfl
        clear hst
        go_wp2_with fail
        refine (hcn _).mono ?_
        rintro e w5 ⟨rfl, rfl⟩
        go_wp2_with fail
        go_roundw
        case rel =>
          refine ⟨3, by omega, rfl, ?_⟩
          rw [HY.out]
          rw [← hs2]; exact hI
        case measure => simp [RowKit.intOf]
      · have hs2 := hst.1 rfl
        clear hst
        go_wp2_with fail
        refine (hcn _).mono ?_
        rintro e w5 ⟨rfl, rfl⟩
        go_wp2_with fail
        go_region
        go_wp2_with fail
        go_roundw
        case rel =>
          refine ⟨3, by omega, rfl, ?_⟩
          rw [HY.out]
          exact (hI.store Y).later (Later.refl _).drew
        case measure => simp [RowKit.intOf]
    · have HREAD := Lib.hid (show ∀ (t g : Nat) (r : Int), okH t g r = true → g ≤ 4294967295 → a ++ 46 :: (b ++ 46 :: c) = showH t g r → t = v ∧ g = u ∧ r = rK c 3 from fun t g r ho hg h =>
        read_match a b c HN.out.1 HN.out.2.1 v u (by have := HV.out; rw [HA.out] at this; simpa using this) (by have := HU.out; rw [HB.out] at this; simpa using this) t g r ho hg h)
      obtain ⟨Z, hZ⟩ : ∃ Z, rK c 3 = Z := ⟨_, rfl⟩
      rw [hZ] at b2 HREAD
      obtain ⟨o, ho⟩ : ∃ o, okH vi ui Z = o := ⟨_, rfl⟩
      have ule : u ≤ 4294967295 := HU.out.1
      have hLw := HW.out.later h1
      clear hcont hI HC hZ
      cases o
      · have hx := HE.out.of_not (fun t g r ho' hg' h' => by
          obtain ⟨rfl, rfl, rfl⟩ := HREAD.out t g r ho' hg' h'
          rw [HVI.out, HUI.out, ho'] at ho
          cases ho)
        obtain ⟨rfl, rfl, rfl, rfl⟩ := hx
        have HO := Lib.hid ho
        clear ho ule HE HREAD
        go_wp2_with fail
        refine (Show_no _ _ _ _ HO.out).mono ?_
        rintro e w5 ⟨rfl, hb5⟩
        have hR5 : R < wk.heap.size := by omega
        have g0 := cell_at hb5 a0 hR5
        have g1 := cell_at hb5 a1 hR5
        have g2 := cell_at hb5 a2 hR5
        have e0 := frz_at hb5 f0 hR5
        have e1 := frz_at hb5 f1 hR5
        have e2 := frz_at hb5 f2 hR5
        have h9 := h1.trans hb5
        clear hb5 a0 a1 a2 f0 f1 f2 b0 b1 b2 d2 f3 hLw
        go_wp2_with fail
        refine bodyPost_ret (v := .tuple #[.agg #[.int .i64 0, .int .u32 0, .int .u8 0], .int .i64 7]) (by simp [results, Tryd.results13, go_sem, g0, g1, g2]) rfl ⟨rfl, ?_⟩
        exact ((h9.setCell _ _ h2).setCell _ _ h2).setCell _ _ h2
      · have hsh := Show_yes v u Z wk (by rw [← HVI.out, ← HUI.out]; exact ho) ule hLw.1
        rw [← HVI.out, ← HUI.out] at hsh
        obtain ⟨T, hT⟩ : ∃ T : ByteArray, T = ⟨(showH v u Z).toArray⟩ := ⟨_, rfl⟩
        rw [← hT] at hsh
        by_cases hq : a ++ 46 :: (b ++ 46 :: c) = showH v u Z
        · have hx := HE.out.of_show (by rw [← HVI.out, ← HUI.out]; exact ho) ule hq
          rw [← HVI.out, ← HUI.out] at hx
          obtain ⟨rfl, rfl, rfl, rfl⟩ := hx
          have hTS : T = S := by rw [hT, HS.out, hq]
          have hne : (T.toList == S.toList) = true := by rw [hTS]; simp
          clear ho ule HE HREAD hT hq hTS
          go_wp2_with fail
          refine hsh.mono ?_
          rintro e w5 ⟨rfl, hb5⟩
          have hR5 : R < wk.heap.size := by omega
          have g0 := cell_at hb5 a0 hR5
          have g1 := cell_at hb5 a1 hR5
          have g2 := cell_at hb5 a2 hR5
          have e0 := frz_at hb5 f0 hR5
          have e1 := frz_at hb5 f1 hR5
          have e2 := frz_at hb5 f2 hR5
          have i0 := cell_at hb5 b0 h5
          have i1 := cell_at hb5 b1 h5
          have i2 := cell_at hb5 b2 h5
          have h9 := h1.trans hb5
          clear hb5 a0 a1 a2 f0 f1 f2 b0 b1 b2 d2 f3 hLw hsh
          go_wp2_with fail
          refine bodyPost_ret (v := .tuple #[.agg #[.int .i64 x, .int .u32 y, .int .u8 z], .int .i64 0]) (by simp [results, Tryd.results13, go_sem, g0, g1, g2]) rfl ⟨rfl, ?_⟩
          exact ((h9.setCell _ _ h2).setCell _ _ h2).setCell _ _ h2
        · have hx := HE.out.of_not (fun t g r ho' hg' h' => by
            obtain ⟨rfl, rfl, rfl⟩ := HREAD.out t g r ho' hg' h'
            exact hq h')
          obtain ⟨rfl, rfl, rfl, rfl⟩ := hx
          have hne : (T.toList == S.toList) = false := by
            rw [Lib.toList_data, Lib.toList_data, hT, HS.out, beq_eq_false_iff_ne]
            intro h
            exact hq (by simpa using h.symm)
          clear ho ule HE HREAD hT hq
          go_wp2_with fail
          refine hsh.mono ?_
          rintro e w5 ⟨rfl, hb5⟩
          have hR5 : R < wk.heap.size := by omega
          have g0 := cell_at hb5 a0 hR5
          have g1 := cell_at hb5 a1 hR5
          have g2 := cell_at hb5 a2 hR5
          have e0 := frz_at hb5 f0 hR5
          have e1 := frz_at hb5 f1 hR5
          have e2 := frz_at hb5 f2 hR5
          have h9 := h1.trans hb5
          clear hb5 a0 a1 a2 f0 f1 f2 b0 b1 b2 d2 f3 hLw hsh
          go_wp2_with fail
          refine bodyPost_ret (v := .tuple #[.agg #[.int .i64 0, .int .u32 0, .int .u8 0], .int .i64 7]) (by simp [results, Tryd.results13, go_sem, g0, g1, g2]) rfl ⟨rfl, ?_⟩
          exact ((h9.setCell _ _ h2).setCell _ _ h2).setCell _ _ h2
end Go.Proofs.YtpfnccjfmbecfaaDoor
