/-
  The law HandleSmall, walked. Conditions: the listed variables read as laid.
-/
import Derived.Test.YtpfnccjfmbecfaaDoorAA
import Derived.Test.YtpfnccjfmbecfaaDoorQ
namespace Go.Proofs.YtpfnccjfmbecfaaDoor
open Go.RowKit Go.Sort Go.Lib

theorem tens_cell (w : World) (i : Nat) (h : i < 12) : ∃ t : Int, (w.alloc (Obj.cells #[Value.int IntKind.i64 (-9223372036854775808), Value.int IntKind.i64 (-1), Value.int IntKind.i64 0, Value.int IntKind.i64 1, Value.int IntKind.i64 2, Value.int IntKind.i64 9, Value.int IntKind.i64 10, Value.int IntKind.i64 15, Value.int IntKind.i64 16, Value.int IntKind.i64 17, Value.int IntKind.i64 256, Value.int IntKind.i64 9223372036854775807] 3)).cell? ⟨w.heap.size, i, none⟩ = some (.int .i64 t) := by
  have hh : i = 0 ∨ i = 1 ∨ i = 2 ∨ i = 3 ∨ i = 4 ∨ i = 5 ∨ i = 6 ∨ i = 7 ∨ i = 8 ∨ i = 9 ∨ i = 10 ∨ i = 11 := by omega
  rcases hh with rfl | rfl | rfl | rfl | rfl | rfl | rfl | rfl | rfl | rfl | rfl | rfl
  · exact ⟨(-9223372036854775808), by rw [World.cell?_alloc_new]; rfl⟩
  · exact ⟨(-1), by rw [World.cell?_alloc_new]; rfl⟩
  · exact ⟨0, by rw [World.cell?_alloc_new]; rfl⟩
  · exact ⟨1, by rw [World.cell?_alloc_new]; rfl⟩
  · exact ⟨2, by rw [World.cell?_alloc_new]; rfl⟩
  · exact ⟨9, by rw [World.cell?_alloc_new]; rfl⟩
  · exact ⟨10, by rw [World.cell?_alloc_new]; rfl⟩
  · exact ⟨15, by rw [World.cell?_alloc_new]; rfl⟩
  · exact ⟨16, by rw [World.cell?_alloc_new]; rfl⟩
  · exact ⟨17, by rw [World.cell?_alloc_new]; rfl⟩
  · exact ⟨256, by rw [World.cell?_alloc_new]; rfl⟩
  · exact ⟨9223372036854775807, by rw [World.cell?_alloc_new]; rfl⟩
theorem gens_cell (w : World) (i : Nat) (h : i < 8) : ∃ g : Int, (0 ≤ g ∧ g ≤ 4294967295) ∧ (w.alloc (Obj.cells #[Value.int IntKind.u32 0, Value.int IntKind.u32 1, Value.int IntKind.u32 2, Value.int IntKind.u32 9, Value.int IntKind.u32 10, Value.int IntKind.u32 2147483647, Value.int IntKind.u32 2147483648, Value.int IntKind.u32 4294967295] 24)).cell? ⟨w.heap.size, i, none⟩ = some (.int .u32 g) := by
  have hh : i = 0 ∨ i = 1 ∨ i = 2 ∨ i = 3 ∨ i = 4 ∨ i = 5 ∨ i = 6 ∨ i = 7 := by omega
  rcases hh with rfl | rfl | rfl | rfl | rfl | rfl | rfl | rfl
  · exact ⟨0, by omega, by rw [World.cell?_alloc_new]; rfl⟩
  · exact ⟨1, by omega, by rw [World.cell?_alloc_new]; rfl⟩
  · exact ⟨2, by omega, by rw [World.cell?_alloc_new]; rfl⟩
  · exact ⟨9, by omega, by rw [World.cell?_alloc_new]; rfl⟩
  · exact ⟨10, by omega, by rw [World.cell?_alloc_new]; rfl⟩
  · exact ⟨2147483647, by omega, by rw [World.cell?_alloc_new]; rfl⟩
  · exact ⟨2147483648, by omega, by rw [World.cell?_alloc_new]; rfl⟩
  · exact ⟨4294967295, by omega, by rw [World.cell?_alloc_new]; rfl⟩

/-- what the loops keep: the tenants (block T), the generations (block G), the last handle (block L) -/
def SInv (w V : World) (T G L : Nat) (x y z : Int) : Prop :=
  Later w V ∧ (w.heap.size ≤ T ∧ T < G ∧ G < L ∧ L < V.heap.size) ∧ (∀ i, i < 12 → ∃ t : Int, V.cell? ⟨T, i, none⟩ = some (.int .i64 t)) ∧ (∀ i, i < 8 → ∃ g : Int, (0 ≤ g ∧ g ≤ 4294967295) ∧ V.cell? ⟨G, i, none⟩ = some (.int .u32 g)) ∧
  (V.cell? ⟨L, 0, none⟩ = some (.int .i64 x) ∧ V.cell? ⟨L, 1, none⟩ = some (.int .u32 y) ∧ V.cell? ⟨L, 2, none⟩ = some (.int .u8 z)) ∧
  (V.frozen? ⟨L, 0, none⟩ = false ∧ V.frozen? ⟨L, 1, none⟩ = false ∧ V.frozen? ⟨L, 2, none⟩ = false) ∧ (0 ≤ y ∧ y ≤ 4294967295) ∧ 0 ≤ z ∧ z ≤ 255
theorem SInv.later {w V U : World} {T G L : Nat} {x y z : Int} (h : SInv w V T G L x y z) (hl : Later V U) : SInv w U T G L x y z := by
  obtain ⟨h1, ⟨h2, h3, h4, h5⟩, ht, hg, ⟨a0, a1, a2⟩, ⟨f0, f1, f2⟩, hy, hz⟩ := h
  refine ⟨h1.trans hl, ⟨h2, h3, h4, Nat.lt_of_lt_of_le h5 hl.size⟩, fun i hi => ?_, fun i hi => ?_, ⟨cell_at hl a0 h5, cell_at hl a1 h5, cell_at hl a2 h5⟩, ⟨frz_at hl f0 h5, frz_at hl f1 h5, frz_at hl f2 h5⟩, hy, hz⟩
  · obtain ⟨t, e⟩ := ht i hi
    exact ⟨t, cell_at hl e (by show T < _; omega)⟩
  · obtain ⟨g, e1, e⟩ := hg i hi
    exact ⟨g, e1, cell_at hl e (by show G < _; omega)⟩
theorem SInv.store {w V : World} {T G L : Nat} {x y z : Int} (h : SInv w V T G L x y z) (x' y' z' : Int) (hy : 0 ≤ y' ∧ y' ≤ 4294967295) (hz : 0 ≤ z' ∧ z' ≤ 255) :
    SInv w (((V.setCell ⟨L, 0, none⟩ (.int .i64 x')).setCell ⟨L, 1, none⟩ (.int .u32 y')).setCell ⟨L, 2, none⟩ (.int .u8 z')) T G L x' y' z' := by
  obtain ⟨h1, ⟨h2, h3, h4, h5⟩, ht, hg, ⟨a0, a1, a2⟩, ⟨f0, f1, f2⟩, _, _⟩ := h
  have hL : w.heap.size ≤ L := by omega
  have oth : ∀ (W : World) (b o j : Nat) (v : Value), b ≠ L → (W.setCell ⟨L, j, none⟩ v).cell? ⟨b, o, none⟩ = W.cell? ⟨b, o, none⟩ := fun W b o j v hb => World.cell?_setCell_other W _ _ _ (by intro h; injection h with h; exact hb h.symm)
  have off : ∀ (W : World) (i j : Nat) (v : Value), i ≠ j → (W.setCell ⟨L, j, none⟩ v).cell? ⟨L, i, none⟩ = W.cell? ⟨L, i, none⟩ := fun W i j v hb => World.cell?_setCell_other W _ _ _ (by intro h; injection h with _ h; exact hb h.symm)
  refine ⟨((h1.setCell _ _ hL).setCell _ _ hL).setCell _ _ hL, ⟨h2, h3, h4, by simpa using h5⟩, fun i hi => ?_, fun i hi => ?_, ⟨?_, ?_, ?_⟩, ⟨by simpa using f0, by simpa using f1, by simpa using f2⟩, hy, hz⟩
  · obtain ⟨t, e⟩ := ht i hi
    exact ⟨t, by rw [oth _ _ _ _ _ (by omega), oth _ _ _ _ _ (by omega), oth _ _ _ _ _ (by omega)]; exact e⟩
  · obtain ⟨g, e1, e⟩ := hg i hi
    exact ⟨g, e1, by rw [oth _ _ _ _ _ (by omega), oth _ _ _ _ _ (by omega), oth _ _ _ _ _ (by omega)]; exact e⟩
  · rw [off _ _ _ _ (by omega), off _ _ _ _ (by omega)]
    exact World.cell?_setCell_same V _ _ a0
  · rw [off _ _ _ _ (by omega)]
    exact World.cell?_setCell_same _ _ _ (by rw [off _ _ _ _ (by omega)]; exact a1)
  · exact World.cell?_setCell_same _ _ _ (by rw [off _ _ _ _ (by omega), off _ _ _ _ (by omega)]; exact a2)

set_option maxRecDepth 100000 in
set_option maxHeartbeats 6400000 in
theorem HandleSmall_any (w : World) (hw : Laid w) : Calls Tryd.prog 6 #[] w fun e w' => e = .returned (.bool true) ∧ Later w w' := by
  have hI0 : SInv w (((w.alloc (Obj.cells #[Value.int IntKind.i64 (-9223372036854775808), Value.int IntKind.i64 (-1), Value.int IntKind.i64 0, Value.int IntKind.i64 1, Value.int IntKind.i64 2, Value.int IntKind.i64 9, Value.int IntKind.i64 10, Value.int IntKind.i64 15, Value.int IntKind.i64 16, Value.int IntKind.i64 17, Value.int IntKind.i64 256, Value.int IntKind.i64 9223372036854775807] 3)).alloc (Obj.cells #[Value.int IntKind.u32 0, Value.int IntKind.u32 1, Value.int IntKind.u32 2, Value.int IntKind.u32 9, Value.int IntKind.u32 10, Value.int IntKind.u32 2147483647, Value.int IntKind.u32 2147483648, Value.int IntKind.u32 4294967295] 24)).alloc (Obj.cells #[Value.int IntKind.i64 0, Value.int IntKind.u32 0, Value.int IntKind.u8 0] 27)) w.heap.size (w.heap.size + 1) (w.heap.size + 1 + 1) 0 0 0 := by
    refine ⟨(((Later.refl w).alloc _).alloc _).alloc _, ⟨Nat.le_refl _, by omega, by omega, by simp⟩, fun i hi => ?_, fun i hi => ?_, ⟨by go_cell, by go_cell, by go_cell⟩, ⟨by go_cell, by go_cell, by go_cell⟩, by omega, by omega, by omega⟩
    · obtain ⟨t, e⟩ := tens_cell w i hi
      exact ⟨t, cell_at (((Later.refl _).alloc _).alloc _) e (by simp)⟩
    · obtain ⟨g, e1, e⟩ := gens_cell (w.alloc (Obj.cells #[Value.int IntKind.i64 (-9223372036854775808), Value.int IntKind.i64 (-1), Value.int IntKind.i64 0, Value.int IntKind.i64 1, Value.int IntKind.i64 2, Value.int IntKind.i64 9, Value.int IntKind.i64 10, Value.int IntKind.i64 15, Value.int IntKind.i64 16, Value.int IntKind.i64 17, Value.int IntKind.i64 256, Value.int IntKind.i64 9223372036854775807] 3)) i hi
      exact ⟨g, e1, by
        have := cell_at ((Later.refl _).alloc (Obj.cells #[Value.int IntKind.i64 0, Value.int IntKind.u32 0, Value.int IntKind.u8 0] 27)) e (by simp)
        simpa using this⟩
  have HW := Lib.hid hw
  clear hw
  go_enter Tryd.func6, Tryd.ntmps6
  go_wp2_with fail
  generalize (((w.alloc (Obj.cells #[Value.int IntKind.i64 (-9223372036854775808), Value.int IntKind.i64 (-1), Value.int IntKind.i64 0, Value.int IntKind.i64 1, Value.int IntKind.i64 2, Value.int IntKind.i64 9, Value.int IntKind.i64 10, Value.int IntKind.i64 15, Value.int IntKind.i64 16, Value.int IntKind.i64 17, Value.int IntKind.i64 256, Value.int IntKind.i64 9223372036854775807] 3)).alloc (Obj.cells #[Value.int IntKind.u32 0, Value.int IntKind.u32 1, Value.int IntKind.u32 2, Value.int IntKind.u32 9, Value.int IntKind.u32 10, Value.int IntKind.u32 2147483647, Value.int IntKind.u32 2147483648, Value.int IntKind.u32 4294967295] 24)).alloc (Obj.cells #[Value.int IntKind.i64 0, Value.int IntKind.u32 0, Value.int IntKind.u8 0] 27)) = W0 at *
  obtain ⟨L, hL⟩ : ∃ L, w.heap.size + 1 + 1 = L := ⟨_, rfl⟩
  obtain ⟨G, hG⟩ : ∃ G, w.heap.size + 1 = G := ⟨_, rfl⟩
  obtain ⟨T, hT⟩ : ∃ T, w.heap.size = T := ⟨_, rfl⟩
  rw [hL, hG, hT] at hI0 ⊢
  clear hL hG hT
  go_loopw [4, 5, 6, 7] (fun v _ _ _ wr => ∃ (i : Nat) (x y z : Int), i ≤ 12 ∧ v = .int .i64 i ∧ SInv w wr T G L x y z) (fun v _ _ _ _ => 12 - (RowKit.intOf v).toNat)
  case atStart => exact ⟨0, 0, 0, 0, by omega, rfl, hI0⟩
  case round =>
    obtain ⟨i, x, y, z, hi, rfl, hI⟩ := hrel
    rename World => wa
    clear hI0
    by_cases hi12 : i < 12
    · have hd12 : decide ((i : Int) < 12) = true := by simp; omega
      go_wp2_with fail
      go_loopw [5, 6, 7] (fun v _ _ wr => ∃ (k : Nat) (x y z : Int), k ≤ 8 ∧ v = .int .i64 k ∧ SInv w wr T G L x y z) (fun v _ _ _ => 8 - (RowKit.intOf v).toNat)
      case atStart => exact ⟨0, x, y, z, by omega, rfl, hI⟩
      case round =>
        obtain ⟨k, x, y, z, hk, rfl, hI⟩ := hrel
        rename World => wb
        by_cases hk8 : k < 8
        · have hd8 : decide ((k : Int) < 8) = true := by simp; omega
          go_wp2_with fail
          go_loopw [6, 7] (fun v _ wr => ∃ (r : Nat) (x y z : Int), r ≤ 256 ∧ v = .int .i64 r ∧ SInv w wr T G L x y z) (fun v _ _ => 256 - (RowKit.intOf v).toNat)
          case atStart => exact ⟨0, x, y, z, by omega, rfl, hI⟩
          case round =>
            obtain ⟨r, x, y, z, hr, rfl, hI⟩ := hrel
            rename World => wc
            by_cases hr256 : r < 256
            · have hd256 : decide ((r : Int) < 256) = true := by simp; omega
              have HI := Lib.hid hI
              obtain ⟨h1, ⟨h2, h3, h4, h5⟩, ht, hg, ⟨a0, a1, a2⟩, ⟨f0, f1, f2⟩, ⟨y0, y1⟩, z0, z1⟩ := hI
              obtain ⟨t, et⟩ := ht i hi12
              obtain ⟨g, ⟨g0, g1⟩, eg⟩ := hg k hk8
              clear ht hg
              have hru : IntKind.u8.wrap (r : Int) = r := IntWalk.u8_in _ (by omega)
              have ii : (i : Int) < 12 := by omega
              have kk : (k : Int) < 8 := by omega
              have hTs : T < wc.heap.size := by omega
              have hGs : G < wc.heap.size := by omega
              go_wp2_with fail
              go_region
              go_wp2_with fail
              obtain ⟨V, hV⟩ : ∃ V, (wc.alloc (Obj.cells #[Value.int IntKind.i64 t, Value.int IntKind.u32 g, Value.int IntKind.u8 (r : Int)] 27)).drew = V := ⟨_, rfl⟩
              obtain ⟨Hb, hHb⟩ : ∃ Hb, wc.heap.size = Hb := ⟨_, rfl⟩
              have hbV : Later wc V := by rw [← hV]; exact ((Later.refl wc).alloc _).drew
              have d0 : V.cell? ⟨Hb, 0, none⟩ = some (.int .i64 t) := by rw [← hV, ← hHb]; simp
              have d1 : V.cell? ⟨Hb, 1, none⟩ = some (.int .u32 g) := by rw [← hV, ← hHb]; simp
              have d2 : V.cell? ⟨Hb, 2, none⟩ = some (.int .u8 (r : Int)) := by rw [← hV, ← hHb]; simp
              have hsV : Hb < V.heap.size := by rw [← hV, ← hHb]; simp
              have hI1 := HI.out.later hbV
              rw [hV, hHb]
              clear hV hHb hbV a0 a1 a2 f0 f1 f2 et eg HI h1 h2 h3 h4 h5 hTs hGs hru
              refine (same_is t g r x y z _ g0 g1 (by omega) (by omega) z0 z1 _ (HW.out.later hI1.1)).mono ?_
              rintro e w5 ⟨rfl, hb5⟩
              have d0 := cell_at hb5 d0 hsV
              have d1 := cell_at hb5 d1 hsV
              have d2 := cell_at hb5 d2 hsV
              have hI2 := hI1.later hb5
              clear hI1 hb5 hsV
              have HI2 := Lib.hid hI2
              obtain ⟨h1, ⟨h2, h3, h4, h5⟩, -, -, ⟨a0, a1, a2⟩, ⟨f0, f1, f2⟩, -, -⟩ := hI2
              by_cases h9 : (r : Int) % 9 < 8
              · go_wp2_with fail
                go_roundw
                case rel => exact ⟨r + 1, t, g, r, by omega, by go_num, HI2.out.store t g r ⟨g0, g1⟩ (by omega)⟩
                case measure => simp [RowKit.intOf]; omega
              · have h9' : 8 ≤ (r : Int) % 9 := by omega
                clear h9
                go_wp2_with fail
                go_roundw
                case rel => exact ⟨r + 1, x, y, z, by omega, by go_num, HI2.out⟩
                case measure => simp [RowKit.intOf]; omega
            · have hd256 : decide ((r : Int) < 256) = false := by simp; omega
              go_wp2_with fail
              go_roundw
              case rel => exact ⟨k + 1, x, y, z, by omega, by go_num, hI⟩
              case measure => simp [RowKit.intOf]; omega
        · have hd8 : decide ((k : Int) < 8) = false := by simp; omega
          go_wp2_with fail
          go_roundw
          case rel => exact ⟨i + 1, x, y, z, by omega, by go_num, hI⟩
          case measure => simp [RowKit.intOf]; omega
    · have hd12 : decide ((i : Int) < 12) = false := by simp; omega
      have hla := hI.1
      clear hI
      go_wp2_with fail
      go_loopw [8, 9] (fun v _ wr => ∃ r : Nat, 1 ≤ r ∧ r ≤ 8 ∧ v = .int .i64 r ∧ Later w wr) (fun v _ _ => 8 - (RowKit.intOf v).toNat)
      case atStart => exact ⟨1, by omega, by omega, rfl, hla⟩
      case round =>
        obtain ⟨r, hr1, hr8, rfl, hl4⟩ := hrel
        rename World => wd
        by_cases hlt : r < 8
        · have hd8 : decide ((r : Int) < 8) = true := by simp; omega
          go_wp2_with fail
          go_loopw [9] (fun v wr => ∃ d : Nat, d ≤ 14 ∧ v = .int .i64 d ∧ Later wd wr) (fun v _ => 14 - (RowKit.intOf v).toNat)
          case atStart => exact ⟨0, by omega, rfl, Later.refl _⟩
          case round =>
            obtain ⟨d, hd, rfl, hl5⟩ := hrel
            rename World => we
            by_cases hd14 : d < 14
            · have hdd : decide ((d : Int) < 14) = true := by simp; omega
              have hru : IntKind.u8.wrap (r : Int) = r := IntWalk.u8_in _ (by omega)
              have hdu : IntKind.u8.wrap ((d : Int) % 9) = (d : Int) % 9 := IntWalk.u8_in _ (by omega)
              go_wp2_with fail
              refine (same_is 1 1 r 1 1 ((d : Int) % 9) _ (by omega) (by omega) (by omega) (by omega) (by omega) (by omega) _ (HW.out.later (hl4.trans hl5))).mono ?_
              rintro e w5 ⟨rfl, hb5⟩
              clear hru hdu
              go_wp2_with fail
              go_roundw
              case rel => exact ⟨d + 1, by omega, by go_num, hl5.trans hb5⟩
              case measure => simp [RowKit.intOf]; omega
            · have hdd : decide ((d : Int) < 14) = false := by simp; omega
              go_wp2_with fail
              go_roundw
              case rel => exact ⟨r + 1, by omega, by omega, by go_num, hl4.trans hl5⟩
              case measure => simp [RowKit.intOf]; omega
        · have hd8 : decide ((r : Int) < 8) = false := by simp; omega
          go_wp2_with fail
          refine (texts_is _ (HW.out.later hl4)).mono ?_
          rintro e w5 ⟨rfl, hb5⟩
          go_wp2_with fail
          refine (awake_is _ (HW.out.later (hl4.trans hb5))).mono ?_
          rintro e w6 ⟨rfl, hb6⟩
          go_wp2_with fail
          go_ret
          exact ⟨rfl, (hl4.trans hb5).trans hb6⟩
end Go.Proofs.YtpfnccjfmbecfaaDoor
