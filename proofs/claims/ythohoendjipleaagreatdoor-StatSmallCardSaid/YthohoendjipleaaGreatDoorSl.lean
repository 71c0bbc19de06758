/-
  The law StatSmall, walked. Conditions: the listed variables read as laid.
-/
import Derived.Test.YthohoendjipleaaGreatDoorSn
import Derived.Test.YthohoendjipleaaGreatDoorRr
import Derived.Test.YthohoendjipleaaGreatDoorPz
namespace Go.Proofs.YthohoendjipleaaGreatDoor
open Go.RowKit Go.Sort Go.Lib
set_option linter.unusedSimpArgs false
set_option linter.unusedVariables false

/-- the four Stats of the first loop -/
def sX (i j : Nat) : Int := if i = 1 then (if j = 2 ∨ j = 7 then 18446744073709551615 else if j = 9 then 18446744073709551614 else 0) else if i = 2 then (if j = 3 then 18446744073709551614 else if j = 8 then 18446744073709551615 else 0) else 0
def sA (i : Nat) : Nat := if i = 0 then 0 else if i = 1 then 4611686018427387904 else if i = 2 then 4602678819172646912 else 4613937818241073152
def sB (i : Nat) : Nat := if i = 1 then 4611686018427387904 else 0
theorem sX_ok (i : Nat) : okX (sX i) := by
  intro j
  unfold sX
  split
  · split
    · omega
    · split <;> omega
  · split
    · split
      · omega
      · split <;> omega
    · omega
theorem s_ld (i : Nat) (h : i < 4) : ∃ r, LdOK (sA i) (sB i) r := by
  have : i = 0 ∨ i = 1 ∨ i = 2 ∨ i = 3 := by omega
  rcases this with rfl | rfl | rfl | rfl
  · exact ⟨true, .inl ⟨rfl, by decide, by decide⟩⟩
  · exact ⟨true, .inl ⟨rfl, by decide, by decide⟩⟩
  · exact ⟨true, .inl ⟨rfl, by decide, by decide⟩⟩
  · exact ⟨false, .inr ⟨rfl, by decide, by decide⟩⟩
theorem s_rows (w : World) (Q i : Nat) (hi : i < 4) (h : w.heap[Q]? = some (.cells #[.int .u64 0, .int .u64 0, .int .u64 0, .int .u64 0, .int .u64 0, .int .u64 0, .int .u64 0, .int .u64 0, .int .u64 0, .int .u64 0, .complex .f64 0 0, .int .u64 0, .int .u64 0, .int .u64 18446744073709551615, .int .u64 0, .int .u64 0, .int .u64 0, .int .u64 0, .int .u64 18446744073709551615, .int .u64 0, .int .u64 18446744073709551614, .complex .f64 4611686018427387904 4611686018427387904, .int .u64 0, .int .u64 0, .int .u64 0, .int .u64 18446744073709551614, .int .u64 0, .int .u64 0, .int .u64 0, .int .u64 0, .int .u64 18446744073709551615, .int .u64 0, .complex .f64 4602678819172646912 0, .int .u64 0, .int .u64 0, .int .u64 0, .int .u64 0, .int .u64 0, .int .u64 0, .int .u64 0, .int .u64 0, .int .u64 0, .int .u64 0, .complex .f64 4613937818241073152 0] 27 (0, 0))) : w.rangeAt Q (i * 11) [.int .u64 (sX i 0), .int .u64 (sX i 1), .int .u64 (sX i 2), .int .u64 (sX i 3), .int .u64 (sX i 4), .int .u64 (sX i 5), .int .u64 (sX i 6), .int .u64 (sX i 7), .int .u64 (sX i 8), .int .u64 (sX i 9), .complex .f64 (sA i) (sB i)] := fun j v hv => by
  rw [Lib.cell_of_heap h]
  have hj : j < 11 := by
    have := (List.getElem?_eq_some_iff.1 hv).1
    simpa using this
  have h4 : i = 0 ∨ i = 1 ∨ i = 2 ∨ i = 3 := by omega
  have h11 : j = 0 ∨ j = 1 ∨ j = 2 ∨ j = 3 ∨ j = 4 ∨ j = 5 ∨ j = 6 ∨ j = 7 ∨ j = 8 ∨ j = 9 ∨ j = 10 := by omega
  rcases h4 with rfl | rfl | rfl | rfl <;> rcases h11 with rfl | rfl | rfl | rfl | rfl | rfl | rfl | rfl | rfl | rfl | rfl <;> (cases hv; rfl)
theorem and3_all : ((List.range 43).all fun k => decide (0 ≤ bits .and .i64 ((k : Int) - 1) 3 ∧ bits .and .i64 ((k : Int) - 1) 3 ≤ 3)) = true := by kernel_rfl
theorem and3 (e : Int) (h : -1 ≤ e ∧ e ≤ 41) : ∃ m : Nat, m ≤ 3 ∧ bits .and .i64 e 3 = (m : Int) := by
  have h1 := List.all_eq_true.1 and3_all (e + 1).toNat (List.mem_range.2 (by omega))
  have h2 : (((e + 1).toNat : Nat) : Int) - 1 = e := by omega
  rw [h2] at h1
  have h3 := of_decide_eq_true h1
  exact ⟨(bits .and .i64 e 3).toNat, by omega, by omega⟩
/-- the Stats of the rates -/
def rX (h g s p : Int) (j : Nat) : Int := if j = 7 then h else if j = 2 then g else if j = 6 then s else if j = 3 then p else 0
theorem rX_ok (h g s p : Int) (h0 : 0 ≤ h ∧ h ≤ 18446744073709551615) (g0 : 0 ≤ g ∧ g ≤ 18446744073709551615) (s0 : 0 ≤ s ∧ s ≤ 18446744073709551615) (p0 : 0 ≤ p ∧ p ≤ 18446744073709551615) : okX (rX h g s p) := by
  intro j
  unfold rX
  split
  · exact h0
  · split
    · exact g0
    · split
      · exact s0
      · split
        · exact p0
        · omega
def vS (k : Nat) : Int := if k = 1 then 1 else if k = 2 then 7 else if k = 3 then 18446744073709551615 else 0
theorem vS_in (k : Nat) : 0 ≤ vS k ∧ vS k ≤ 18446744073709551615 := by
  unfold vS
  split
  · omega
  · split
    · omega
    · split <;> omega
theorem vS_cell (w : World) (k : Nat) (h : k < 4) : (w.alloc (.cells #[.int .u64 0, .int .u64 1, .int .u64 7, .int .u64 18446744073709551615] 24)).cell? ⟨w.heap.size, k, none⟩ = some (.int .u64 (vS k)) := by
  have : k = 0 ∨ k = 1 ∨ k = 2 ∨ k = 3 := by omega
  rcases this with rfl | rfl | rfl | rfl <;> (rw [World.cell?_alloc_new]; rfl)

theorem wd_cell (w : World) (k : Nat) (h : k < 9) : ∃ s : ByteArray, s.size ≤ 1 ∧ (w.alloc (.cells #[.string ⟨#[]⟩, .string ⟨#[32]⟩, .string ⟨#[48]⟩, .string ⟨#[57]⟩, .string ⟨#[102]⟩, .string ⟨#[70]⟩, .string ⟨#[120]⟩, .string ⟨#[45]⟩, .string ⟨#[56]⟩] 9)).cell? ⟨w.heap.size, k, none⟩ = some (.string s) := by
  have : k = 0 ∨ k = 1 ∨ k = 2 ∨ k = 3 ∨ k = 4 ∨ k = 5 ∨ k = 6 ∨ k = 7 ∨ k = 8 := by omega
  rcases this with rfl | rfl | rfl | rfl | rfl | rfl | rfl | rfl | rfl
  · exact ⟨⟨#[]⟩, by decide, by rw [World.cell?_alloc_new]; rfl⟩
  · exact ⟨⟨#[32]⟩, by decide, by rw [World.cell?_alloc_new]; rfl⟩
  · exact ⟨⟨#[48]⟩, by decide, by rw [World.cell?_alloc_new]; rfl⟩
  · exact ⟨⟨#[57]⟩, by decide, by rw [World.cell?_alloc_new]; rfl⟩
  · exact ⟨⟨#[102]⟩, by decide, by rw [World.cell?_alloc_new]; rfl⟩
  · exact ⟨⟨#[70]⟩, by decide, by rw [World.cell?_alloc_new]; rfl⟩
  · exact ⟨⟨#[120]⟩, by decide, by rw [World.cell?_alloc_new]; rfl⟩
  · exact ⟨⟨#[45]⟩, by decide, by rw [World.cell?_alloc_new]; rfl⟩
  · exact ⟨⟨#[56]⟩, by decide, by rw [World.cell?_alloc_new]; rfl⟩

theorem wa_cell (w : World) (k : Nat) (h : k < 9) : ∃ s : ByteArray, s.size ≤ 16 ∧ (w.alloc (.cells #[.string ⟨#[48, 48, 48, 48, 48, 48, 48, 48, 48, 48, 48, 48, 48, 48, 48, 48]⟩, .string ⟨#[56, 48, 48, 48, 48, 48, 48, 48, 48, 48, 48, 48, 48, 48, 48, 48]⟩, .string ⟨#[52, 48, 48, 48, 48, 48, 48, 48, 48, 48, 48, 48, 48, 48, 48, 48]⟩, .string ⟨#[52, 48, 48, 48, 48, 48, 48, 48, 48, 48, 48, 48, 48, 48, 48, 49]⟩, .string ⟨#[55, 102, 102, 56, 48, 48, 48, 48, 48, 48, 48, 48, 48, 48, 48, 48]⟩, .string ⟨#[55, 102, 102, 48, 48, 48, 48, 48, 48, 48, 48, 48, 48, 48, 48, 48]⟩, .string ⟨#[102, 102, 102, 48, 48, 48, 48, 48, 48, 48, 48, 48, 48, 48, 48, 48]⟩, .string ⟨#[48, 48, 48, 48, 48, 48, 48, 48, 48, 48, 48, 48, 48, 48, 48, 49]⟩, .string ⟨#[98, 102, 102, 48, 48, 48, 48, 48, 48, 48, 48, 48, 48, 48, 48, 48]⟩] 9)).cell? ⟨w.heap.size, k, none⟩ = some (.string s) := by
  have : k = 0 ∨ k = 1 ∨ k = 2 ∨ k = 3 ∨ k = 4 ∨ k = 5 ∨ k = 6 ∨ k = 7 ∨ k = 8 := by omega
  rcases this with rfl | rfl | rfl | rfl | rfl | rfl | rfl | rfl | rfl
  · exact ⟨⟨#[48, 48, 48, 48, 48, 48, 48, 48, 48, 48, 48, 48, 48, 48, 48, 48]⟩, by decide, by rw [World.cell?_alloc_new]; rfl⟩
  · exact ⟨⟨#[56, 48, 48, 48, 48, 48, 48, 48, 48, 48, 48, 48, 48, 48, 48, 48]⟩, by decide, by rw [World.cell?_alloc_new]; rfl⟩
  · exact ⟨⟨#[52, 48, 48, 48, 48, 48, 48, 48, 48, 48, 48, 48, 48, 48, 48, 48]⟩, by decide, by rw [World.cell?_alloc_new]; rfl⟩
  · exact ⟨⟨#[52, 48, 48, 48, 48, 48, 48, 48, 48, 48, 48, 48, 48, 48, 48, 49]⟩, by decide, by rw [World.cell?_alloc_new]; rfl⟩
  · exact ⟨⟨#[55, 102, 102, 56, 48, 48, 48, 48, 48, 48, 48, 48, 48, 48, 48, 48]⟩, by decide, by rw [World.cell?_alloc_new]; rfl⟩
  · exact ⟨⟨#[55, 102, 102, 48, 48, 48, 48, 48, 48, 48, 48, 48, 48, 48, 48, 48]⟩, by decide, by rw [World.cell?_alloc_new]; rfl⟩
  · exact ⟨⟨#[102, 102, 102, 48, 48, 48, 48, 48, 48, 48, 48, 48, 48, 48, 48, 48]⟩, by decide, by rw [World.cell?_alloc_new]; rfl⟩
  · exact ⟨⟨#[48, 48, 48, 48, 48, 48, 48, 48, 48, 48, 48, 48, 48, 48, 48, 49]⟩, by decide, by rw [World.cell?_alloc_new]; rfl⟩
  · exact ⟨⟨#[98, 102, 102, 48, 48, 48, 48, 48, 48, 48, 48, 48, 48, 48, 48, 48]⟩, by decide, by rw [World.cell?_alloc_new]; rfl⟩
theorem wb_cell (w : World) (k : Nat) (h : k < 4) : ∃ s : ByteArray, s.size ≤ 16 ∧ (w.alloc (.cells #[.string ⟨#[48, 48, 48, 48, 48, 48, 48, 48, 48, 48, 48, 48, 48, 48, 48, 48]⟩, .string ⟨#[56, 48, 48, 48, 48, 48, 48, 48, 48, 48, 48, 48, 48, 48, 48, 48]⟩, .string ⟨#[52, 48, 48, 48, 48, 48, 48, 48, 48, 48, 48, 48, 48, 48, 48, 49]⟩, .string ⟨#[51, 102, 102, 102, 102, 102, 102, 102, 102, 102, 102, 102, 102, 102, 102, 102]⟩] 9)).cell? ⟨w.heap.size, k, none⟩ = some (.string s) := by
  have : k = 0 ∨ k = 1 ∨ k = 2 ∨ k = 3 := by omega
  rcases this with rfl | rfl | rfl | rfl
  · exact ⟨⟨#[48, 48, 48, 48, 48, 48, 48, 48, 48, 48, 48, 48, 48, 48, 48, 48]⟩, by decide, by rw [World.cell?_alloc_new]; rfl⟩
  · exact ⟨⟨#[56, 48, 48, 48, 48, 48, 48, 48, 48, 48, 48, 48, 48, 48, 48, 48]⟩, by decide, by rw [World.cell?_alloc_new]; rfl⟩
  · exact ⟨⟨#[52, 48, 48, 48, 48, 48, 48, 48, 48, 48, 48, 48, 48, 48, 48, 49]⟩, by decide, by rw [World.cell?_alloc_new]; rfl⟩
  · exact ⟨⟨#[51, 102, 102, 102, 102, 102, 102, 102, 102, 102, 102, 102, 102, 102, 102, 102]⟩, by decide, by rw [World.cell?_alloc_new]; rfl⟩

set_option maxRecDepth 100000 in
set_option maxHeartbeats 32000000 in
theorem StatSmall_is (w : World) (hE : EnvP w) : Calls Tryz.prog 4 #[] w fun e w' => e = .returned (.bool true) ∧ Later w w' := by
  obtain ⟨j0, hj0, hjz, hjs, hjb⟩ := info_parts info153
  have hmk : ∀ (m : Nat) (U : World), m ≤ 3 → (Instr.makeSlice 32 (.int .i64 (m : Int)) (.int .i64 (m : Int))).run Tryz.prog U = .ok (.slice (some ⟨U.heap.size, 0, none⟩) m m) (U.alloc (.cells (madeCells (Value.agg #[.string ⟨#[]⟩, .string ⟨#[]⟩]).cells (m * 2)) 205)) := fun m U hm => by
    have h := run_make (P := Tryz.prog) U 32 205 j0 (Value.agg #[.string ⟨#[]⟩, .string ⟨#[]⟩]) Tryz.underlying32 hj0 hjz .i64 .i64 (m : Int) (m : Int) (by omega) (by omega) (by rw [hjb]; omega) (by omega)
    rw [hjs, Int.toNat_natCast] at h
    exact h
  have HMK := Lib.hid hmk
  have HE := Lib.hid hE
  clear hmk hE
  go_enter Tryz.func4, Tryz.ntmps4
  go_wp2_with fail
  -- the events
  go_loopw [1, 2, 4] (fun s1 _ _ wr => ∃ d : Int, s1 = .int .i64 d ∧ -1 ≤ d ∧ d ≤ 12 ∧ Later w wr) (fun s1 _ _ _ => (12 - RowKit.intOf s1).toNat)
  case atStart => exact ⟨-1, rfl, by omega, by omega, Later.refl _⟩
  case round =>
    obtain ⟨d, rfl, hd0, hd1, hl⟩ := hrel
    rename World => wa
    by_cases hd : d ≤ 11
    · have dd : decide (d ≤ 11) = true := by simpa using hd
      have HLA := Lib.hid hl
      clear hl
      go_wp2_with fail
      go_loopw [2, 4] (fun s2 _ wr => ∃ e : Int, s2 = .int .i64 e ∧ -1 ≤ e ∧ e ≤ 42 ∧ Later w wr) (fun s2 _ _ => (42 - RowKit.intOf s2).toNat)
      case atStart => exact ⟨-1, rfl, by omega, by omega, HLA.out⟩
      case round =>
        obtain ⟨er, rfl, he0, he1, hl⟩ := hrel
        rename World => wb
        by_cases he : er ≤ 41
        · have de : decide (er ≤ 41) = true := by simpa using he
          have HLB := Lib.hid hl
          clear hl HLA
          go_wp2_with fail
          have hq := (MapKept.heap_alloc wb (.cells #[.int .u64 0, .int .u64 0, .int .u64 0, .int .u64 0, .int .u64 0, .int .u64 0, .int .u64 0, .int .u64 0, .int .u64 0, .int .u64 0, .complex .f64 0 0, .int .u64 0, .int .u64 0, .int .u64 18446744073709551615, .int .u64 0, .int .u64 0, .int .u64 0, .int .u64 0, .int .u64 18446744073709551615, .int .u64 0, .int .u64 18446744073709551614, .complex .f64 4611686018427387904 4611686018427387904, .int .u64 0, .int .u64 0, .int .u64 0, .int .u64 18446744073709551614, .int .u64 0, .int .u64 0, .int .u64 0, .int .u64 0, .int .u64 18446744073709551615, .int .u64 0, .complex .f64 4602678819172646912 0, .int .u64 0, .int .u64 0, .int .u64 0, .int .u64 0, .int .u64 0, .int .u64 0, .int .u64 0, .int .u64 0, .int .u64 0, .int .u64 0, .complex .f64 4613937818241073152 0] 27)).1
          have hlq := HLB.out.alloc (.cells #[.int .u64 0, .int .u64 0, .int .u64 0, .int .u64 0, .int .u64 0, .int .u64 0, .int .u64 0, .int .u64 0, .int .u64 0, .int .u64 0, .complex .f64 0 0, .int .u64 0, .int .u64 0, .int .u64 18446744073709551615, .int .u64 0, .int .u64 0, .int .u64 0, .int .u64 0, .int .u64 18446744073709551615, .int .u64 0, .int .u64 18446744073709551614, .complex .f64 4611686018427387904 4611686018427387904, .int .u64 0, .int .u64 0, .int .u64 0, .int .u64 18446744073709551614, .int .u64 0, .int .u64 0, .int .u64 0, .int .u64 0, .int .u64 18446744073709551615, .int .u64 0, .complex .f64 4602678819172646912 0, .int .u64 0, .int .u64 0, .int .u64 0, .int .u64 0, .int .u64 0, .int .u64 0, .int .u64 0, .int .u64 0, .int .u64 0, .int .u64 0, .complex .f64 4613937818241073152 0] 27)
          obtain ⟨wq, hwq⟩ : ∃ wq, wb.alloc (.cells #[.int .u64 0, .int .u64 0, .int .u64 0, .int .u64 0, .int .u64 0, .int .u64 0, .int .u64 0, .int .u64 0, .int .u64 0, .int .u64 0, .complex .f64 0 0, .int .u64 0, .int .u64 0, .int .u64 18446744073709551615, .int .u64 0, .int .u64 0, .int .u64 0, .int .u64 0, .int .u64 18446744073709551615, .int .u64 0, .int .u64 18446744073709551614, .complex .f64 4611686018427387904 4611686018427387904, .int .u64 0, .int .u64 0, .int .u64 0, .int .u64 18446744073709551614, .int .u64 0, .int .u64 0, .int .u64 0, .int .u64 0, .int .u64 18446744073709551615, .int .u64 0, .complex .f64 4602678819172646912 0, .int .u64 0, .int .u64 0, .int .u64 0, .int .u64 0, .int .u64 0, .int .u64 0, .int .u64 0, .int .u64 0, .int .u64 0, .int .u64 0, .complex .f64 4613937818241073152 0] 27) = wq := ⟨_, rfl⟩
          obtain ⟨Q, hQ⟩ : ∃ Q, wb.heap.size = Q := ⟨_, rfl⟩
          rw [hwq] at hq hlq
          rw [hQ] at hq
          rw [hwq, hQ]
          have HQ := Lib.hid hq
          have HLQ := Lib.hid hlq
          have HQL := Lib.hid (show Q < wq.heap.size from (Array.getElem?_eq_some_iff.1 hq).1)
          clear hwq hQ hq hlq HLB
          go_loopw [4, 34] (fun _ s34 wr => ∃ i : Nat, s34 = .int .i64 (i : Int) ∧ i ≤ 4 ∧ Later wq wr) (fun _ s34 _ => 4 - (RowKit.intOf s34).toNat)
          case atStart => exact ⟨0, rfl, by omega, Later.refl _⟩
          case round =>
            obtain ⟨i, rfl, hi, hl⟩ := hrel
            rename World => wc
            by_cases hi4 : i < 4
            · have di : decide ((i : Int) < 4) = true := by simp; omega
              have di2 : decide (i < 4) = true := by simpa using hi4
              have hqc := (Below.block hl Q HQL.out).trans HQ.out
              have HRG := Lib.hid (s_rows wc Q i hi4 hqc)
              have HLC := Lib.hid hl
              have hi0 : (0 : Int) ≤ (i : Int) := by omega
              have hi3 : (i : Int) < 4 := by omega
              clear hqc hl
              go_upto_region 10 with (first | (refine wpList_load_mid rfl 27 (.tmp 36) rfl Q (i * 11) rfl [.int .u64 (sX i 0), .int .u64 (sX i 1), .int .u64 (sX i 2), .int .u64 (sX i 3), .int .u64 (sX i 4), .int .u64 (sX i 5), .int .u64 (sX i 6), .int .u64 (sX i 7), .int .u64 (sX i 8), .int .u64 (sX i 9), .complex .f64 (sA i) (sB i)] _ HRG.out Tryz.underlying27 rfl (by kernel_rfl) ?_) | (refine wpList_store_rowTo rfl 27 (.tmp 4) (.tmp 37) rfl rfl wc.heap.size (xRow (sX i) (sA i) (sB i)) rfl rfl 27 (xRow xZ0 0 0) (heap_alloc_last wc _) (by kernel_rfl) rfl (by kernel_rfl) ?_; rw [World.setRow_alloc_new]))
              have hbx := (MapKept.heap_alloc wc (.cells (xRow (sX i) (sA i) (sB i)) 27)).1
              have hlx := HLC.out.alloc (.cells (xRow (sX i) (sA i) (sB i)) 27)
              obtain ⟨wx, hwx⟩ : ∃ wx, wc.alloc (.cells (xRow (sX i) (sA i) (sB i)) 27) = wx := ⟨_, rfl⟩
              obtain ⟨B, hB⟩ : ∃ B, wc.heap.size = B := ⟨_, rfl⟩
              rw [hwx] at hbx hlx
              rw [hB] at hbx
              try rw [hwx]
              try rw [hB]
              have HBX := Lib.hid hbx
              have HLX := Lib.hid hlx
              clear hwx hB hbx hlx HRG HLC
              obtain ⟨m, hm3, hm⟩ := and3 er ⟨he0, by omega⟩
              go_cut [46] from 38 to 46 (fun s46 V => s46 = .bool false ∧ Later wq V)
              case first J1 K1 hJ hKK =>
                obtain ⟨r, hr⟩ := s_ld i hi4
                have hxo : okX (sX i) := sX_ok i
                have hsn := fun (P : Option Addr) (nn cc : Nat) (hn : nn ≤ 1000000) (V : World) (hV : Later wq V) => StatNexts_is (sX i) hxo hr d er P nn cc hn V (HE.out.1.later (HLQ.out.trans hV))
                have hmkm := fun U => HMK.out m U hm3
                have hlxw := HLX.out
                have hbx := HBX.out
                clear hi0 hi3 di di2 HBX
                refine wp_region_inv mixed (fun D aa V => ∃ (x38 x39 x40 x41 x42 x43 x44 x45 x46 : Value), aa = ⟨#[u0, Value.int IntKind.i64 d, Value.int IntKind.i64 er, undef, Value.pointer (some { block := B, off := 0 }), undef, undef, undef, undef, undef, undef, undef, undef, undef, undef, undef, undef, undef, undef, undef, Value.int IntKind.i64 d, Value.bool true, u22, u23, Value.int IntKind.i64 er, Value.bool true, u26, u27, Value.agg #[Value.int IntKind.u64 0, Value.int IntKind.u64 0, Value.int IntKind.u64 0, Value.int IntKind.u64 0, Value.int IntKind.u64 0, Value.int IntKind.u64 0, Value.int IntKind.u64 0, Value.int IntKind.u64 0, Value.int IntKind.u64 0, Value.int IntKind.u64 0, Value.complex FloatKind.f64 0 0], Value.agg #[Value.int IntKind.u64 0, Value.int IntKind.u64 0, Value.int IntKind.u64 18446744073709551615, Value.int IntKind.u64 0, Value.int IntKind.u64 0, Value.int IntKind.u64 0, Value.int IntKind.u64 0, Value.int IntKind.u64 18446744073709551615, Value.int IntKind.u64 0, Value.int IntKind.u64 18446744073709551614, Value.complex FloatKind.f64 4611686018427387904 4611686018427387904], Value.agg #[Value.int IntKind.u64 0, Value.int IntKind.u64 0, Value.int IntKind.u64 0, Value.int IntKind.u64 18446744073709551614, Value.int IntKind.u64 0, Value.int IntKind.u64 0, Value.int IntKind.u64 0, Value.int IntKind.u64 0, Value.int IntKind.u64 18446744073709551615, Value.int IntKind.u64 0, Value.complex FloatKind.f64 4602678819172646912 0], Value.agg #[Value.int IntKind.u64 0, Value.int IntKind.u64 0, Value.int IntKind.u64 0, Value.int IntKind.u64 0, Value.int IntKind.u64 0, Value.int IntKind.u64 0, Value.int IntKind.u64 0, Value.int IntKind.u64 0, Value.int IntKind.u64 0, Value.int IntKind.u64 0, Value.complex FloatKind.f64 4613937818241073152 0], Value.slice (some { block := Q, off := 0 }) 4 4, Value.int IntKind.i64 4, Value.int IntKind.i64 ↑i, Value.bool true, Value.pointer (some { block := Q, off := i * 11 }), Value.agg #[Value.int IntKind.u64 (sX i 0), Value.int IntKind.u64 (sX i 1), Value.int IntKind.u64 (sX i 2), Value.int IntKind.u64 (sX i 3), Value.int IntKind.u64 (sX i 4), Value.int IntKind.u64 (sX i 5), Value.int IntKind.u64 (sX i 6), Value.int IntKind.u64 (sX i 7), Value.int IntKind.u64 (sX i 8), Value.int IntKind.u64 (sX i 9), Value.complex FloatKind.f64 (sA i) (sB i)], x38, x39, x40, x41, x42, x43, x44, x45, x46, u47, undef, undef, undef, undef, undef, undef, undef, undef, undef, undef, undef, undef, undef, undef, undef, undef, undef, undef, undef, undef, undef, undef, undef, undef, undef, undef, undef, undef, undef, undef, undef, undef, undef, undef, undef, undef, undef, undef, undef, undef, undef, undef, undef, undef, undef, undef, undef, undef, undef, undef, undef, undef, undef, undef, undef, undef, undef, undef, undef, undef, undef, undef, undef, undef, undef, undef, undef, undef, undef, undef, undef, undef, undef, undef, undef, undef, undef, undef, undef, undef, undef, undef, undef, undef, undef, undef, undef, undef, undef, undef, undef, undef, undef, undef, undef, undef, undef, undef, undef, undef, undef, undef, undef, undef, undef, undef, undef, undef, undef, undef, undef, undef, undef, undef, undef, undef, undef, undef, undef, undef], []⟩ ∧ (Later wq V ∧ V.heap[B]? = some (.cells (xRow (sX i) (sA i) (sB i)) 27 (0, 0))) ∧ (D 0 = true → x38 = .agg #[.int .u64 (sX i 0), .int .u64 (sX i 1), .int .u64 (sX i 2), .int .u64 (sX i 3), .int .u64 (sX i 4), .int .u64 (sX i 5), .int .u64 (sX i 6), .int .u64 (sX i 7), .int .u64 (sX i 8), .int .u64 (sX i 9), .complex .f64 (sA i) (sB i)]) ∧ (D 1 = true → x39 = .int .i64 d) ∧ (D 2 = true → x40 = .int .i64 er) ∧ (D 3 = true → x41 = .int .i64 er) ∧ (D 4 = true → x42 = .int .i64 (m : Int)) ∧ (D 5 = true → ∃ A : Addr, x43 = .slice (some A) m m) ∧ (D 6 = true → ∃ A : Addr, x44 = .agg (ansP er (some A) m m)) ∧ (D 7 = true → x45 = .bool true) ∧ (D 8 = true → x46 = .bool false)) (by kernel_rfl) ?h0 ?hstep ?hend
                case h0 => exact ⟨_, _, _, _, _, _, _, _, _, rfl, ⟨hlxw.drew, hbx⟩, (fun h => by cases h), (fun h => by cases h), (fun h => by cases h), (fun h => by cases h), (fun h => by cases h), (fun h => by cases h), (fun h => by cases h), (fun h => by cases h), (fun h => by cases h)⟩
                case hend =>
                  intro D aa V hD hI
                  obtain ⟨x38, x39, x40, x41, x42, x43, x44, x45, x46, rfl, ⟨hl, -⟩, -, -, -, -, -, -, -, -, hf⟩ := hI
                  exact hKK _ _ (Met.intro (hJ _ _ ⟨_, _, _, _, _, _, _, _, _, ⟨hf (hD 8 (by decide)), hl⟩, rfl⟩))
                case hstep =>
                  intro k D aa V hk hD hdep hI
                  obtain ⟨x38, x39, x40, x41, x42, x43, x44, x45, x46, rfl, ⟨hl, hbv⟩, f0, f1, f2, f3, f4, f5, f6, f7, f8⟩ := hI
                  have hk' : k = 0 ∨ k = 1 ∨ k = 2 ∨ k = 3 ∨ k = 4 ∨ k = 5 ∨ k = 6 ∨ k = 7 ∨ k = 8 := by
                    have : k < 9 := hk
                    omega
                  rcases hk' with rfl | rfl | rfl | rfl | rfl | rfl | rfl | rfl | rfl
                  · obtain ⟨⟨v0, v1, v2, v3, v4, v5⟩, v6, v7, v8, v9, v10⟩ := setRow_cellsR hbv
                    refine wpOp_step rfl (fun K' hK => ?_)
                    rw [if_pos (by rfl)]
                    go_simp
                    exact hK _ _ ⟨_, _, _, _, _, _, _, _, _, rfl, ⟨hl, hbv⟩, fun _ => rfl, fun h => f1 (by simpa [updD] using h), fun h => f2 (by simpa [updD] using h), fun h => f3 (by simpa [updD] using h), fun h => f4 (by simpa [updD] using h), fun h => f5 (by simpa [updD] using h), fun h => f6 (by simpa [updD] using h), fun h => f7 (by simpa [updD] using h), fun h => f8 (by simpa [updD] using h)⟩
                  · refine wpOp_step rfl (fun K' hK => ?_)
                    rw [if_pos (by rfl)]
                    go_simp
                    exact hK _ _ ⟨_, _, _, _, _, _, _, _, _, rfl, ⟨hl, hbv⟩, fun h => f0 (by simpa [updD] using h), fun _ => rfl, fun h => f2 (by simpa [updD] using h), fun h => f3 (by simpa [updD] using h), fun h => f4 (by simpa [updD] using h), fun h => f5 (by simpa [updD] using h), fun h => f6 (by simpa [updD] using h), fun h => f7 (by simpa [updD] using h), fun h => f8 (by simpa [updD] using h)⟩
                  · refine wpOp_step rfl (fun K' hK => ?_)
                    rw [if_pos (by rfl)]
                    go_simp
                    exact hK _ _ ⟨_, _, _, _, _, _, _, _, _, rfl, ⟨hl, hbv⟩, fun h => f0 (by simpa [updD] using h), fun h => f1 (by simpa [updD] using h), fun _ => rfl, fun h => f3 (by simpa [updD] using h), fun h => f4 (by simpa [updD] using h), fun h => f5 (by simpa [updD] using h), fun h => f6 (by simpa [updD] using h), fun h => f7 (by simpa [updD] using h), fun h => f8 (by simpa [updD] using h)⟩
                  · refine wpOp_step rfl (fun K' hK => ?_)
                    rw [if_pos (by rfl)]
                    go_simp
                    exact hK _ _ ⟨_, _, _, _, _, _, _, _, _, rfl, ⟨hl, hbv⟩, fun h => f0 (by simpa [updD] using h), fun h => f1 (by simpa [updD] using h), fun h => f2 (by simpa [updD] using h), fun _ => rfl, fun h => f4 (by simpa [updD] using h), fun h => f5 (by simpa [updD] using h), fun h => f6 (by simpa [updD] using h), fun h => f7 (by simpa [updD] using h), fun h => f8 (by simpa [updD] using h)⟩
                  · have g3 := f3 (hdep 3 (by kernel_rfl))
                    subst g3
                    refine wpOp_step rfl (fun K' hK => ?_)
                    rw [if_pos (by rfl)]
                    go_simp
                    exact hK _ _ ⟨_, _, _, _, _, _, _, _, _, rfl, ⟨hl, hbv⟩, fun h => f0 (by simpa [updD] using h), fun h => f1 (by simpa [updD] using h), fun h => f2 (by simpa [updD] using h), fun h => f3 (by simpa [updD] using h), fun _ => by first | rfl | rw [hm], fun h => f5 (by simpa [updD] using h), fun h => f6 (by simpa [updD] using h), fun h => f7 (by simpa [updD] using h), fun h => f8 (by simpa [updD] using h)⟩
                  · have g4 := f4 (hdep 4 (by kernel_rfl))
                    subst g4
                    refine wpOp_step rfl (fun K' hK => ?_)
                    rw [if_pos (by rfl)]
                    go_simp
                    have hl2 := (Later.refl V).alloc (.cells (madeCells (Value.agg #[.string ⟨#[]⟩, .string ⟨#[]⟩]).cells (m * 2)) 205)
                    exact hK _ _ ⟨_, _, _, _, _, _, _, _, _, rfl, ⟨hl.trans hl2, (Below.block hl2 B (Array.getElem?_eq_some_iff.1 hbv).1).trans hbv⟩, fun h => f0 (by simpa [updD] using h), fun h => f1 (by simpa [updD] using h), fun h => f2 (by simpa [updD] using h), fun h => f3 (by simpa [updD] using h), fun h => f4 (by simpa [updD] using h), fun _ => ⟨_, rfl⟩, fun h => f6 (by simpa [updD] using h), fun h => f7 (by simpa [updD] using h), fun h => f8 (by simpa [updD] using h)⟩
                  · have g2 := f2 (hdep 2 (by kernel_rfl))
                    obtain ⟨A, g5⟩ := f5 (hdep 5 (by kernel_rfl))
                    subst g2
                    subst g5
                    refine wpOp_step rfl (fun K' hK => ?_)
                    rw [if_pos (by rfl)]
                    go_simp
                    exact hK _ _ ⟨_, _, _, _, _, _, _, _, _, rfl, ⟨hl, hbv⟩, fun h => f0 (by simpa [updD] using h), fun h => f1 (by simpa [updD] using h), fun h => f2 (by simpa [updD] using h), fun h => f3 (by simpa [updD] using h), fun h => f4 (by simpa [updD] using h), fun h => f5 (by simpa [updD] using h), fun _ => ⟨_, rfl⟩, fun h => f7 (by simpa [updD] using h), fun h => f8 (by simpa [updD] using h)⟩
                  · have g0 := f0 (hdep 0 (by kernel_rfl))
                    have g1 := f1 (hdep 1 (by kernel_rfl))
                    obtain ⟨A, g6⟩ := f6 (hdep 6 (by kernel_rfl))
                    subst g0
                    subst g1
                    subst g6
                    refine wpOp_step rfl (fun K' hK => ?_)
                    rw [if_pos (by rfl)]
                    unfold ansP
                    go_simp
                    refine (hsn (some A) m m (by omega) V hl).mono ?_
                    rintro e V2 ⟨rfl, hl2⟩
                    exact hK _ _ ⟨_, _, _, _, _, _, _, _, _, rfl, ⟨hl.trans hl2, (Below.block hl2 B (Array.getElem?_eq_some_iff.1 hbv).1).trans hbv⟩, fun h => f0 (by simpa [updD] using h), fun h => f1 (by simpa [updD] using h), fun h => f2 (by simpa [updD] using h), fun h => f3 (by simpa [updD] using h), fun h => f4 (by simpa [updD] using h), fun h => f5 (by simpa [updD] using h), fun h => f6 (by simpa [updD] using h), fun _ => rfl, fun h => f8 (by simpa [updD] using h)⟩
                  · have g7 := f7 (hdep 7 (by kernel_rfl))
                    subst g7
                    refine wpOp_step rfl (fun K' hK => ?_)
                    rw [if_pos (by rfl)]
                    go_simp
                    exact hK _ _ ⟨_, _, _, _, _, _, _, _, _, rfl, ⟨hl, hbv⟩, fun h => f0 (by simpa [updD] using h), fun h => f1 (by simpa [updD] using h), fun h => f2 (by simpa [updD] using h), fun h => f3 (by simpa [updD] using h), fun h => f4 (by simpa [updD] using h), fun h => f5 (by simpa [updD] using h), fun h => f6 (by simpa [updD] using h), fun h => f7 (by simpa [updD] using h), fun _ => rfl⟩
              case rest =>
                obtain ⟨rfl, hlr⟩ := hcut
                have HLR := Lib.hid hlr
                clear hlr hm
                go_wp2_with fail
                go_roundw
                case rel => exact ⟨i + 1, by go_num, by omega, HLR.out⟩
                case measure => simp [RowKit.intOf]; omega
            · obtain rfl : i = 4 := by omega
              have HLR := Lib.hid (HLQ.out.trans hl)
              clear hl hi4
              go_wp2_with fail
              go_roundw
              case rel => exact ⟨er + 1, by go_num, by omega, by omega, HLR.out⟩
              case measure => simp [RowKit.intOf]; omega
        · have de : decide (er ≤ 41) = false := by simp; omega
          have HLB := Lib.hid hl
          clear hl he
          go_wp2_with fail
          go_roundw
          case rel => exact ⟨d + 1, by go_num, by omega, by omega, HLB.out⟩
          case measure => simp [RowKit.intOf]; omega
    · have dd : decide (d ≤ 11) = false := by simp; omega
      have HLA := Lib.hid hl
      clear hl hd
      go_wp2_with fail
      go_loopw [5, 6, 8, 9, 10, 48] (fun _ _ _ _ _ s48 wr => ∃ h : Nat, s48 = .int .u64 (h : Int) ∧ h ≤ 12 ∧ Later w wr) (fun _ _ _ _ _ s48 _ => 12 - (RowKit.intOf s48).toNat)
      case atStart => exact ⟨0, rfl, by omega, HLA.out⟩
      case round =>
        obtain ⟨h, rfl, hh, hl⟩ := hrel
        rename World => wa
        clear HLA
        by_cases hh12 : h < 12
        · have dh : decide ((h : Int) < 12) = true := by simp; omega
          have dh2 : decide (h < 12) = true := by simpa using hh12
          have HLA := Lib.hid hl
          clear hl
          go_wp2_with fail
          go_loopw [6, 8, 9, 10, 51] (fun _ _ _ _ s51 wr => ∃ g : Nat, s51 = .int .u64 (g : Int) ∧ g ≤ 10 ∧ Later w wr) (fun _ _ _ _ s51 _ => 10 - (RowKit.intOf s51).toNat)
          case atStart => exact ⟨0, rfl, by omega, HLA.out⟩
          case round =>
            obtain ⟨g, rfl, hg, hl⟩ := hrel
            rename World => wb
            by_cases hg10 : g < 10
            · have dg1 : decide ((g : Int) < 10) = true := by simp; omega
              have dg2 : decide (g < 10) = true := by simpa using hg10
              have HLB := Lib.hid hl
              clear hl
              go_wp2_with fail
              have hlq := HLB.out.alloc (.cells #[.int .u64 0, .int .u64 1, .int .u64 7, .int .u64 18446744073709551615] 24)
              have hvc := vS_cell wb
              have hql : wb.heap.size < (wb.alloc (.cells #[.int .u64 0, .int .u64 1, .int .u64 7, .int .u64 18446744073709551615] 24)).heap.size := by simp
              obtain ⟨wq, hwq⟩ : ∃ wq, wb.alloc (.cells #[.int .u64 0, .int .u64 1, .int .u64 7, .int .u64 18446744073709551615] 24) = wq := ⟨_, rfl⟩
              obtain ⟨Q, hQ⟩ : ∃ Q, wb.heap.size = Q := ⟨_, rfl⟩
              rw [hwq, hQ] at hvc hql
              rw [hwq] at hlq
              rw [hwq, hQ]
              have HQ := Lib.hid (And.intro hvc hql)
              have HLQ := Lib.hid hlq
              clear hwq hQ hlq hvc hql HLB
              go_loopw [8, 9, 10, 56] (fun _ _ _ s56 wr => ∃ k : Nat, s56 = .int .i64 (k : Int) ∧ k ≤ 4 ∧ Later wq wr) (fun _ _ _ s56 _ => 4 - (RowKit.intOf s56).toNat)
              case atStart => exact ⟨0, rfl, by omega, Later.refl _⟩
              case round =>
                obtain ⟨k, rfl, hk, hl⟩ := hrel
                rename World => wc
                by_cases hk4 : k < 4
                · have dk : decide ((k : Int) < 4) = true := by simp; omega
                  have dk2 : decide (k < 4) = true := by simpa using hk4
                  have cv := cell_at hl (HQ.out.1 k hk4) HQ.out.2
                  have hvin := vS_in k
                  obtain ⟨v, hv⟩ : ∃ v, vS k = v := ⟨_, rfl⟩
                  rw [hv] at cv hvin
                  have hsub : IntKind.u64.wrap (18446744073709551615 - (h : Int)) = 18446744073709551615 - (h : Int) := by rw [IntKind.wrap_u64]; omega
                  have hk0 : (0 : Int) ≤ (k : Int) := by omega
                  have hk1 : (k : Int) < 4 := by omega
                  have HLC := Lib.hid hl
                  clear hl hv
                  obtain ⟨y1, hy1⟩ : ∃ y, rX (h : Int) (g : Int) v 0 = y := ⟨_, rfl⟩
                  have hyo1 : okX y1 := by rw [← hy1]; exact rX_ok _ _ _ _ (by omega) (by omega) hvin (by omega)
                  have HY1 := Lib.hid hy1
                  go_upto_region 23 with (first | (refine wpList_store_rowTo rfl 27 (.tmp 9) (.tmp 63) rfl rfl wc.heap.size (xRow (rX (h : Int) (g : Int) v 0) 0 0) rfl rfl 27 (xRow xZ0 0 0) (heap_alloc_last wc _) (by kernel_rfl) rfl (by kernel_rfl) ?_; rw [World.setRow_alloc_new]))
                  have hb1 := (MapKept.heap_alloc wc (.cells (xRow (rX (h : Int) (g : Int) v 0) 0 0) 27)).1
                  have hlx1 := (Later.refl wc).alloc (.cells (xRow (rX (h : Int) (g : Int) v 0) 0 0) 27)
                  obtain ⟨wx1, hwx⟩ : ∃ wx, wc.alloc (.cells (xRow (rX (h : Int) (g : Int) v 0) 0 0) 27) = wx := ⟨_, rfl⟩
                  obtain ⟨B1, hB⟩ : ∃ B, wc.heap.size = B := ⟨_, rfl⟩
                  rw [hwx] at hb1 hlx1
                  rw [hB, hy1] at hb1
                  try rw [hwx]
                  try rw [hB]
                  obtain ⟨⟨t0, t1, t2, t3, t4, t5⟩, t6, t7, t8, t9, t10⟩ := setRow_cellsR hb1
                  have k0 := cell_regrown t0
                  have k1 := cell_regrown t1
                  have k2 := cell_regrown t2
                  have k3 := cell_regrown t3
                  have k4 := cell_regrown t4
                  have k5 := cell_regrown t5
                  have k6 := cell_regrown t6
                  have k7 := cell_regrown t7
                  have k8 := cell_regrown t8
                  have k9 := cell_regrown t9
                  have k10 := cell_regrown t10
                  obtain ⟨q1, hq⟩ : ∃ q, rateX y1 = q := ⟨_, rfl⟩
                  have c1 := fun dd os => quiet_later (Rate_is y1 hyo1 0 0 (grow (redrawn wx1 dd) os))
                  have c2 := fun dd os => quiet_later (refRate_is y1 hyo1 0 0 (grow (redrawn wx1 dd) os))
                  rw [hq] at c1 c2
                  have HLX1 := Lib.hid hlx1
                  clear hwx hB hb1 hlx1 hq hyo1 hy1 t0 t1 t2 t3 t4 t5 t6 t7 t8 t9 t10
                  refine wp_region_quiet_below mixed (by kernel_rfl) ?_
                  repeat ((with_reducible refine wpQuiet_step (fun K hK => ?_)); go_simp; first | ((with_reducible refine hK _ ?_); clear hK K) | (apply Exists.intro; refine ⟨fun _ => ?_, hK _ ?_⟩; (first | (with_reducible exact c1 _ _) | (with_reducible exact c2 _ _)); clear hK K))
                  with_reducible refine wpQuiet_nil ?_
                  intro wz1 hwz
                  have HLZ1 := Lib.hid (show Later wc wz1 from HLX1.out.trans (by obtain ⟨q, rfl⟩ := hwz; exact below_regrown wx1 q.d q.os))
                  clear hwz c1 c2 k0 k1 k2 k3 k4 k5 k6 k7 k8 k9 k10 HLX1
                  obtain ⟨y2, hy2⟩ : ∃ y, rX (18446744073709551615 - (h : Int)) (g : Int) v 18446744073709551615 = y := ⟨_, rfl⟩
                  have hyo2 : okX y2 := by rw [← hy2]; exact rX_ok _ _ _ _ (by omega) (by omega) hvin (by omega)
                  have HY2 := Lib.hid hy2
                  go_upto_region 26 with (first | (refine wpList_store_rowTo rfl 27 (.tmp 10) (.tmp 73) rfl rfl wz1.heap.size (xRow (rX (18446744073709551615 - (h : Int)) (g : Int) v 18446744073709551615) 0 0) rfl rfl 27 (xRow xZ0 0 0) (heap_alloc_last wz1 _) (by kernel_rfl) rfl (by kernel_rfl) ?_; rw [World.setRow_alloc_new]))
                  have hb2 := (MapKept.heap_alloc wz1 (.cells (xRow (rX (18446744073709551615 - (h : Int)) (g : Int) v 18446744073709551615) 0 0) 27)).1
                  have hlx2 := (Later.refl wz1).alloc (.cells (xRow (rX (18446744073709551615 - (h : Int)) (g : Int) v 18446744073709551615) 0 0) 27)
                  obtain ⟨wx2, hwx⟩ : ∃ wx, wz1.alloc (.cells (xRow (rX (18446744073709551615 - (h : Int)) (g : Int) v 18446744073709551615) 0 0) 27) = wx := ⟨_, rfl⟩
                  obtain ⟨B2, hB⟩ : ∃ B, wz1.heap.size = B := ⟨_, rfl⟩
                  rw [hwx] at hb2 hlx2
                  rw [hB, hy2] at hb2
                  try rw [hwx]
                  try rw [hB]
                  obtain ⟨⟨t0, t1, t2, t3, t4, t5⟩, t6, t7, t8, t9, t10⟩ := setRow_cellsR hb2
                  have k0 := cell_regrown t0
                  have k1 := cell_regrown t1
                  have k2 := cell_regrown t2
                  have k3 := cell_regrown t3
                  have k4 := cell_regrown t4
                  have k5 := cell_regrown t5
                  have k6 := cell_regrown t6
                  have k7 := cell_regrown t7
                  have k8 := cell_regrown t8
                  have k9 := cell_regrown t9
                  have k10 := cell_regrown t10
                  obtain ⟨q2, hq⟩ : ∃ q, rateX y2 = q := ⟨_, rfl⟩
                  have c1 := fun dd os => quiet_later (Rate_is y2 hyo2 0 0 (grow (redrawn wx2 dd) os))
                  have c2 := fun dd os => quiet_later (refRate_is y2 hyo2 0 0 (grow (redrawn wx2 dd) os))
                  rw [hq] at c1 c2
                  have HLX2 := Lib.hid hlx2
                  clear hwx hB hb2 hlx2 hq hyo2 hy2 t0 t1 t2 t3 t4 t5 t6 t7 t8 t9 t10
                  refine wp_region_quiet_below mixed (by kernel_rfl) ?_
                  repeat ((with_reducible refine wpQuiet_step (fun K hK => ?_)); go_simp; first | ((with_reducible refine hK _ ?_); clear hK K) | (apply Exists.intro; refine ⟨fun _ => ?_, hK _ ?_⟩; (first | (with_reducible exact c1 _ _) | (with_reducible exact c2 _ _)); clear hK K))
                  with_reducible refine wpQuiet_nil ?_
                  intro wz2 hwz
                  have HLZ2 := Lib.hid (show Later wz1 wz2 from HLX2.out.trans (by obtain ⟨q, rfl⟩ := hwz; exact below_regrown wx2 q.d q.os))
                  clear hwz c1 c2 k0 k1 k2 k3 k4 k5 k6 k7 k8 k9 k10 HLX2
                  have HLF := Lib.hid (HLC.out.trans (HLZ1.out.trans HLZ2.out))
                  clear HLC HLZ1 HLZ2
                  go_wp2_with fail
                  go_roundw
                  case rel => exact ⟨k + 1, by go_num, by omega, HLF.out⟩
                  case measure => simp [RowKit.intOf]; omega
                · obtain rfl : k = 4 := by omega
                  have HLR := Lib.hid (HLQ.out.trans hl)
                  clear hl hk4
                  go_wp2_with fail
                  go_roundw
                  case rel => exact ⟨g + 1, by go_num, by omega, HLR.out⟩
                  case measure => simp [RowKit.intOf]; omega
            · obtain rfl : g = 10 := by omega
              have HLB := Lib.hid hl
              clear hl hg10
              go_wp2_with fail
              go_roundw
              case rel => exact ⟨h + 1, by go_num, by omega, HLB.out⟩
              case measure => simp [RowKit.intOf]; omega
        · have dh : decide ((h : Int) < 12) = false := by simp; omega
          have dh2 : decide (h < 12) = false := by simp; omega
          have HLA := Lib.hid hl
          clear hl hh12
          go_upto_region 32 with fail
          obtain ⟨T, hT⟩ : ∃ T : ByteArray, (⟨((([107, 101, 121, 115, 32, 48, 32, 98, 121, 116, 101, 115, 32, 49, 48, 32, 103, 101, 116, 115, 32, 49, 56, 52, 52, 54, 55, 52, 52, 48, 55, 51, 55, 48].append [57, 53, 53, 49, 54, 49, 53, 32, 112, 117, 116, 115, 32, 51, 32, 100, 101, 108, 101, 116, 101, 115, 32, 52, 32, 115, 119, 97, 112, 115, 32, 53, 32, 115, 99]).append ([97, 110, 115, 32, 54, 32, 104, 105, 116, 115, 32, 55, 32, 114, 101, 102, 117, 115, 101, 100, 32, 56, 32, 112, 97, 105, 114, 115, 32, 57, 32, 108, 111, 97].append [100, 32, 51, 102, 102, 48, 48, 48, 48, 48, 48, 48, 48, 48, 48, 48, 48, 48, 32, 52, 48, 48, 48, 48, 48, 48, 48, 48, 48, 48, 48, 48, 48, 48, 48]))).toArray⟩ : ByteArray) = T := ⟨_, rfl⟩
          have hsz : T.size = 138 := by rw [← hT]; rfl
          rw [hT]
          have HT := Lib.hid hsz
          clear hT hsz
          go_wp2_with fail
          go_loopw [12, 14] (fun s12 _ wr => ∃ i : Nat, s12 = .int .i64 (i : Int) ∧ i ≤ T.size + 1 ∧ Later w wr) (fun s12 _ _ => T.size + 1 - (RowKit.intOf s12).toNat)
          case atStart => exact ⟨0, rfl, by omega, HLA.out⟩
          case round =>
            obtain ⟨i, rfl, hi, hl⟩ := hrel
            rename World => wb
            clear HLA
            by_cases hit : i ≤ T.size
            · have di : decide ((i : Int) ≤ (T.size : Int)) = true := by simp; omega
              have di2 : decide (i ≤ T.size) = true := by simpa using hit
              have HLB := Lib.hid hl
              clear hl
              go_wp2_with fail
              have hlq := HLB.out.alloc (.cells #[.string ⟨#[]⟩, .string ⟨#[32]⟩, .string ⟨#[48]⟩, .string ⟨#[57]⟩, .string ⟨#[102]⟩, .string ⟨#[70]⟩, .string ⟨#[120]⟩, .string ⟨#[45]⟩, .string ⟨#[56]⟩] 9)
              have hvc := wd_cell wb
              have hql : wb.heap.size < (wb.alloc (.cells #[.string ⟨#[]⟩, .string ⟨#[32]⟩, .string ⟨#[48]⟩, .string ⟨#[57]⟩, .string ⟨#[102]⟩, .string ⟨#[70]⟩, .string ⟨#[120]⟩, .string ⟨#[45]⟩, .string ⟨#[56]⟩] 9)).heap.size := by simp
              obtain ⟨wq, hwq⟩ : ∃ wq, wb.alloc (.cells #[.string ⟨#[]⟩, .string ⟨#[32]⟩, .string ⟨#[48]⟩, .string ⟨#[57]⟩, .string ⟨#[102]⟩, .string ⟨#[70]⟩, .string ⟨#[120]⟩, .string ⟨#[45]⟩, .string ⟨#[56]⟩] 9) = wq := ⟨_, rfl⟩
              obtain ⟨Q, hQ⟩ : ∃ Q, wb.heap.size = Q := ⟨_, rfl⟩
              rw [hwq, hQ] at hvc hql
              rw [hwq] at hlq
              rw [hwq, hQ]
              have HQ := Lib.hid (And.intro hvc hql)
              have HLQ := Lib.hid hlq
              clear hwq hQ hlq hvc hql HLB
              go_loopw [14, 90] (fun _ s90 wr => ∃ k : Nat, s90 = .int .i64 (k : Int) ∧ k ≤ 9 ∧ Later wq wr) (fun _ s90 _ => 9 - (RowKit.intOf s90).toNat)
              case atStart => exact ⟨0, rfl, by omega, Later.refl _⟩
              case round =>
                obtain ⟨k, rfl, hk, hl⟩ := hrel
                rename World => wc
                by_cases hk9 : k < 9
                · have dk : decide ((k : Int) < 9) = true := by simp; omega
                  have dk2 : decide (k < 9) = true := by simpa using hk9
                  obtain ⟨Wd, hws, cv⟩ := HQ.out.1 k hk9
                  have cv := cell_at hl cv HQ.out.2
                  have hk0 : (0 : Int) ≤ (k : Int) := by omega
                  have hk1 : (k : Int) < 9 := by omega
                  have HLC := Lib.hid hl
                  clear hl
                  go_upto_region 38 with fail
                  have hsz := HT.out
                  have ix0 : (0 : Int) ≤ (i : Int) := by omega
                  have ix1 : (i : Int) ≤ (T.size : Int) := by omega
                  obtain ⟨j, hj⟩ : ∃ j : Nat, min (i + 1) T.size = j := ⟨_, rfl⟩
                  have hjle : j ≤ T.size := by omega
                  have iw : IntKind.i64.wrap ((i : Int) + 1) = ((i : Int) + 1) := by rw [IntKind.wrap_i64]; omega
                  have imin : min ((i : Int) + 1) (T.size : Int) = (j : Int) := by omega
                  have ix2 : (0 : Int) ≤ (j : Int) := by omega
                  have ix3 : (j : Int) ≤ (T.size : Int) := by omega
                  obtain ⟨A, hA⟩ : ∃ A : ByteArray, T.extract 0 i = A := ⟨_, rfl⟩
                  obtain ⟨C, hC⟩ : ∃ C : ByteArray, T.extract i T.size = C := ⟨_, rfl⟩
                  obtain ⟨F, hF⟩ : ∃ F : ByteArray, T.extract j T.size = F := ⟨_, rfl⟩
                  have hAs : A.size = i := by rw [← hA, ByteArray.size_extract]; omega
                  have hCs : C.size ≤ 200 := by rw [← hC, ByteArray.size_extract]; omega
                  have hFs : F.size ≤ 200 := by rw [← hF, ByteArray.size_extract]; omega
                  have b1 : ¬ 9223372036854775807 < A.size + Wd.size := by omega
                  have b2 : ¬ 9223372036854775807 < A.size + Wd.size + C.size := by omega
                  have b3 : ¬ 9223372036854775807 < A.size + Wd.size + F.size := by omega
                  have hEc := HE.out.later (HLQ.out.trans HLC.out)
                  have c1 := fun (S : ByteArray) (hS : S.size ≤ 100000) dd os => quiet_later (parses_is S hS (grow (redrawn wc dd) os) (hEc.later (below_regrown wc dd os)))
                  have q1 := c1 (A ++ Wd ++ C) (by rw [ByteArray.size_append, ByteArray.size_append]; omega)
                  have q2 := c1 (A ++ Wd ++ F) (by rw [ByteArray.size_append, ByteArray.size_append]; omega)
                  have q3 := c1 A (by omega)
                  clear c1 hEc hj hsz hjle hAs hCs hFs
                  refine wp_region_quiet_below mixed (by kernel_rfl) ?_
                  repeat ((with_reducible refine wpQuiet_step (fun K hK => ?_)); go_simp; first | ((with_reducible refine hK _ ?_); clear hK K) | ((with_reducible refine iteNeg ?_ ?_); (focus (intro h; cases h)); (with_reducible refine hK _ ?_); clear hK K) | (apply Exists.intro; refine ⟨fun _ => ?_, hK _ ?_⟩; (first | (with_reducible exact q1 _ _) | (with_reducible exact q2 _ _) | (with_reducible exact q3 _ _)); clear hK K))
                  with_reducible refine wpQuiet_nil ?_
                  intro wz hwz
                  have HLF := Lib.hid (HLC.out.trans (show Later wc wz by obtain ⟨q, rfl⟩ := hwz; exact below_regrown wc q.d q.os))
                  clear hwz q1 q2 q3 HLC cv hws hA hC hF b1 b2 b3 imin iw ix0 ix1 ix2 ix3
                  go_wp2_with fail
                  go_roundw
                  case rel => exact ⟨k + 1, by go_num, by omega, HLF.out⟩
                  case measure => simp [RowKit.intOf]; omega
                · obtain rfl : k = 9 := by omega
                  have HLR := Lib.hid (HLQ.out.trans hl)
                  have hsz := HT.out
                  clear hl hk9
                  go_wp2_with fail
                  go_roundw
                  case rel => exact ⟨i + 1, by go_num, by omega, HLR.out⟩
                  case measure => simp [RowKit.intOf]; omega
            · have di : decide ((i : Int) ≤ (T.size : Int)) = false := by simp; omega
              have di2 : decide (i ≤ T.size) = false := by simp; omega
              have HLA := Lib.hid hl
              have hsz := HT.out
              obtain ⟨n, hn⟩ : ∃ n : Nat, n = 105 := ⟨_, rfl⟩
              have w1 : IntKind.i64.wrap ((T.size : Int) - 33) = (n : Int) := by rw [IntKind.wrap_i64]; omega
              have w2 : (n : Int) ≤ (T.size : Int) := by omega
              have w3 : (0 : Int) ≤ (n : Int) := by omega
              obtain ⟨H, hH⟩ : ∃ H : ByteArray, T.extract 0 n = H := ⟨_, rfl⟩
              have hHs : H.size ≤ 200 := by rw [← hH, ByteArray.size_extract]; omega
              have HHS := Lib.hid hHs
              clear hl hit hsz hn hHs
              go_upto_region 42 with fail
              clear w1 w2 w3 hH di di2
              go_wp2_with fail
              have hlq := HLA.out.alloc (.cells #[.string ⟨#[48, 48, 48, 48, 48, 48, 48, 48, 48, 48, 48, 48, 48, 48, 48, 48]⟩, .string ⟨#[56, 48, 48, 48, 48, 48, 48, 48, 48, 48, 48, 48, 48, 48, 48, 48]⟩, .string ⟨#[52, 48, 48, 48, 48, 48, 48, 48, 48, 48, 48, 48, 48, 48, 48, 48]⟩, .string ⟨#[52, 48, 48, 48, 48, 48, 48, 48, 48, 48, 48, 48, 48, 48, 48, 49]⟩, .string ⟨#[55, 102, 102, 56, 48, 48, 48, 48, 48, 48, 48, 48, 48, 48, 48, 48]⟩, .string ⟨#[55, 102, 102, 48, 48, 48, 48, 48, 48, 48, 48, 48, 48, 48, 48, 48]⟩, .string ⟨#[102, 102, 102, 48, 48, 48, 48, 48, 48, 48, 48, 48, 48, 48, 48, 48]⟩, .string ⟨#[48, 48, 48, 48, 48, 48, 48, 48, 48, 48, 48, 48, 48, 48, 48, 49]⟩, .string ⟨#[98, 102, 102, 48, 48, 48, 48, 48, 48, 48, 48, 48, 48, 48, 48, 48]⟩] 9)
              have hvc := wa_cell wb
              have hql : wb.heap.size < (wb.alloc (.cells #[.string ⟨#[48, 48, 48, 48, 48, 48, 48, 48, 48, 48, 48, 48, 48, 48, 48, 48]⟩, .string ⟨#[56, 48, 48, 48, 48, 48, 48, 48, 48, 48, 48, 48, 48, 48, 48, 48]⟩, .string ⟨#[52, 48, 48, 48, 48, 48, 48, 48, 48, 48, 48, 48, 48, 48, 48, 48]⟩, .string ⟨#[52, 48, 48, 48, 48, 48, 48, 48, 48, 48, 48, 48, 48, 48, 48, 49]⟩, .string ⟨#[55, 102, 102, 56, 48, 48, 48, 48, 48, 48, 48, 48, 48, 48, 48, 48]⟩, .string ⟨#[55, 102, 102, 48, 48, 48, 48, 48, 48, 48, 48, 48, 48, 48, 48, 48]⟩, .string ⟨#[102, 102, 102, 48, 48, 48, 48, 48, 48, 48, 48, 48, 48, 48, 48, 48]⟩, .string ⟨#[48, 48, 48, 48, 48, 48, 48, 48, 48, 48, 48, 48, 48, 48, 48, 49]⟩, .string ⟨#[98, 102, 102, 48, 48, 48, 48, 48, 48, 48, 48, 48, 48, 48, 48, 48]⟩] 9)).heap.size := by simp
              obtain ⟨wq, hwq⟩ : ∃ wq, wb.alloc (.cells #[.string ⟨#[48, 48, 48, 48, 48, 48, 48, 48, 48, 48, 48, 48, 48, 48, 48, 48]⟩, .string ⟨#[56, 48, 48, 48, 48, 48, 48, 48, 48, 48, 48, 48, 48, 48, 48, 48]⟩, .string ⟨#[52, 48, 48, 48, 48, 48, 48, 48, 48, 48, 48, 48, 48, 48, 48, 48]⟩, .string ⟨#[52, 48, 48, 48, 48, 48, 48, 48, 48, 48, 48, 48, 48, 48, 48, 49]⟩, .string ⟨#[55, 102, 102, 56, 48, 48, 48, 48, 48, 48, 48, 48, 48, 48, 48, 48]⟩, .string ⟨#[55, 102, 102, 48, 48, 48, 48, 48, 48, 48, 48, 48, 48, 48, 48, 48]⟩, .string ⟨#[102, 102, 102, 48, 48, 48, 48, 48, 48, 48, 48, 48, 48, 48, 48, 48]⟩, .string ⟨#[48, 48, 48, 48, 48, 48, 48, 48, 48, 48, 48, 48, 48, 48, 48, 49]⟩, .string ⟨#[98, 102, 102, 48, 48, 48, 48, 48, 48, 48, 48, 48, 48, 48, 48, 48]⟩] 9) = wq := ⟨_, rfl⟩
              obtain ⟨Q, hQ⟩ : ∃ Q, wb.heap.size = Q := ⟨_, rfl⟩
              rw [hwq, hQ] at hvc hql
              rw [hwq] at hlq
              rw [hwq, hQ]
              have HQ := Lib.hid (And.intro hvc hql)
              have HLQ := Lib.hid hlq
              clear hwq hQ hlq hvc hql HLA
              go_loopw [17, 19, 137] (fun _ _ s137 wr => ∃ k : Nat, s137 = .int .i64 (k : Int) ∧ k ≤ 9 ∧ Later wq wr) (fun _ _ s137 _ => 9 - (RowKit.intOf s137).toNat)
              case atStart => exact ⟨0, rfl, by omega, Later.refl _⟩
              case round =>
                obtain ⟨k, rfl, hk, hl⟩ := hrel
                rename World => wc
                by_cases hk9 : k < 9
                · have dk : decide ((k : Int) < 9) = true := by simp; omega
                  have dk2 : decide (k < 9) = true := by simpa using hk9
                  obtain ⟨Wa, hwa, cv⟩ := HQ.out.1 k hk9
                  have cv := cell_at hl cv HQ.out.2
                  have hk0 : (0 : Int) ≤ (k : Int) := by omega
                  have hk1 : (k : Int) < 9 := by omega
                  have HLC := Lib.hid hl
                  have HWA := Lib.hid hwa
                  clear hl hwa
                  go_upto_region 45 with fail
                  clear cv
                  go_wp2_with fail
                  have hlq := (Later.refl wc).alloc (.cells #[.string ⟨#[48, 48, 48, 48, 48, 48, 48, 48, 48, 48, 48, 48, 48, 48, 48, 48]⟩, .string ⟨#[56, 48, 48, 48, 48, 48, 48, 48, 48, 48, 48, 48, 48, 48, 48, 48]⟩, .string ⟨#[52, 48, 48, 48, 48, 48, 48, 48, 48, 48, 48, 48, 48, 48, 48, 49]⟩, .string ⟨#[51, 102, 102, 102, 102, 102, 102, 102, 102, 102, 102, 102, 102, 102, 102, 102]⟩] 9)
                  have hvc := wb_cell wc
                  have hql : wc.heap.size < (wc.alloc (.cells #[.string ⟨#[48, 48, 48, 48, 48, 48, 48, 48, 48, 48, 48, 48, 48, 48, 48, 48]⟩, .string ⟨#[56, 48, 48, 48, 48, 48, 48, 48, 48, 48, 48, 48, 48, 48, 48, 48]⟩, .string ⟨#[52, 48, 48, 48, 48, 48, 48, 48, 48, 48, 48, 48, 48, 48, 48, 49]⟩, .string ⟨#[51, 102, 102, 102, 102, 102, 102, 102, 102, 102, 102, 102, 102, 102, 102, 102]⟩] 9)).heap.size := by simp
                  obtain ⟨wd, hwd⟩ : ∃ wd, wc.alloc (.cells #[.string ⟨#[48, 48, 48, 48, 48, 48, 48, 48, 48, 48, 48, 48, 48, 48, 48, 48]⟩, .string ⟨#[56, 48, 48, 48, 48, 48, 48, 48, 48, 48, 48, 48, 48, 48, 48, 48]⟩, .string ⟨#[52, 48, 48, 48, 48, 48, 48, 48, 48, 48, 48, 48, 48, 48, 48, 49]⟩, .string ⟨#[51, 102, 102, 102, 102, 102, 102, 102, 102, 102, 102, 102, 102, 102, 102, 102]⟩] 9) = wd := ⟨_, rfl⟩
                  obtain ⟨D, hD⟩ : ∃ D, wc.heap.size = D := ⟨_, rfl⟩
                  rw [hwd, hD] at hvc hql
                  rw [hwd] at hlq
                  rw [hwd, hD]
                  have HD := Lib.hid (And.intro hvc hql)
                  have HLD := Lib.hid hlq
                  clear hwd hD hlq hvc hql
                  go_loopw [19, 143] (fun _ s143 wr => ∃ j : Nat, s143 = .int .i64 (j : Int) ∧ j ≤ 4 ∧ Later wd wr) (fun _ s143 _ => 4 - (RowKit.intOf s143).toNat)
                  case atStart => exact ⟨0, rfl, by omega, Later.refl _⟩
                  case round =>
                    obtain ⟨j, rfl, hj, hl⟩ := hrel
                    rename World => we
                    by_cases hj4 : j < 4
                    · have dj : decide ((j : Int) < 4) = true := by simp; omega
                      have dj2 : decide (j < 4) = true := by simpa using hj4
                      obtain ⟨Wb, hwb, cv⟩ := HD.out.1 j hj4
                      have cv := cell_at hl cv HD.out.2
                      have hj0 : (0 : Int) ≤ (j : Int) := by omega
                      have hj1 : (j : Int) < 4 := by omega
                      have HLE := Lib.hid hl
                      clear hl
                      go_upto_region 48 with fail
                      clear cv
                      have hHs := HHS.out
                      have hwa := HWA.out
                      have b1 : ¬ 9223372036854775807 < H.size + Wa.size := by omega
                      have b2 : ¬ 9223372036854775807 < H.size + Wa.size + 1 := by omega
                      have b3 : ¬ 9223372036854775807 < H.size + Wa.size + 1 + Wb.size := by omega
                      have b4 : ¬ 9223372036854775807 < H.size + Wb.size := by omega
                      have b5 : ¬ 9223372036854775807 < H.size + Wb.size + 1 := by omega
                      have b6 : ¬ 9223372036854775807 < H.size + Wb.size + 1 + Wa.size := by omega
                      have HEE := Lib.hid (HE.out.later (HLQ.out.trans (HLC.out.trans (HLD.out.trans HLE.out))))
                      have HP1 := Lib.hid (parses_is (H ++ Wa ++ ⟨#[32]⟩ ++ Wb) (by rw [ByteArray.size_append, ByteArray.size_append, ByteArray.size_append]; have : (⟨#[32]⟩ : ByteArray).size = 1 := rfl; omega))
                      have HP2 := Lib.hid (parses_is (H ++ Wb ++ ⟨#[32]⟩ ++ Wa) (by rw [ByteArray.size_append, ByteArray.size_append, ByteArray.size_append]; have : (⟨#[32]⟩ : ByteArray).size = 1 := rfl; omega))
                      clear hHs hwa hwb
                      go_wp2_with fail
                      refine (HP1.out we HEE.out).mono ?_
                      rintro e wf ⟨rfl, hlf⟩
                      have HLF := Lib.hid hlf
                      clear hlf
                      go_wp2_with fail
                      refine (HP2.out wf (HEE.out.later HLF.out)).mono ?_
                      rintro e wg ⟨rfl, hlg⟩
                      have HLG := Lib.hid (HLE.out.trans (HLF.out.trans hlg))
                      clear hlg HP1 HP2 HEE HLE HLF b1 b2 b3 b4 b5 b6
                      go_wp2_with fail
                      go_roundw
                      case rel => exact ⟨j + 1, by go_num, by omega, HLG.out⟩
                      case measure => simp [RowKit.intOf]; omega
                    · obtain rfl : j = 4 := by omega
                      have HLR := Lib.hid (HLC.out.trans (HLD.out.trans hl))
                      clear hl hj4
                      go_wp2_with fail
                      go_roundw
                      case rel => exact ⟨k + 1, by go_num, by omega, HLR.out⟩
                      case measure => simp [RowKit.intOf]; omega
                · obtain rfl : k = 9 := by omega
                  have HLR := Lib.hid (HLQ.out.trans hl)
                  clear hl hk9
                  go_wp2_with fail
                  refine (awake_is wc (HE.out.1.later HLR.out)).mono ?_
                  rintro e wd ⟨rfl, hld⟩
                  have HLS := Lib.hid (HLR.out.trans hld)
                  clear hld
                  go_wp2_with fail
                  go_ret
                  exact ⟨rfl, HLS.out⟩
end Go.Proofs.YthohoendjipleaaGreatDoor
