/-
  strings.Split at spaces; what a Parse keeps. Conditions: the text has at most 100000 bytes; the listed variables read as laid.
-/
import Derived.Test.YthohoendjipleaaGreatDoorPp
import Derived.Test.YthohoendjipleaaGreatDoorRw
import Derived.Test.YthohoendjipleaaGreatDoorPa
namespace Go.Proofs.YthohoendjipleaaGreatDoor
open Go.RowKit Go.Sort Go.Lib
set_option linter.unusedSimpArgs false
set_option linter.unusedVariables false

/-- what the laid variables give -/
def EnvP (w : World) : Prop := Env w ∧ Errs w ∧ ∃ m, w.cell? ⟨4, 0, none⟩ = some (.int .i64 m)
theorem EnvP.later {w w' : World} (h : EnvP w) (hl : Later w w') : EnvP w' := by
  obtain ⟨h1, h2, m, h3⟩ := h
  exact ⟨h1.later hl, h2.later hl, m, cell_at hl h3 (World.block_lt_of_cell? w _ h3)⟩
theorem size_mk (l : List UInt8) : (⟨l.toArray⟩ : ByteArray).size = l.length := by simp [ByteArray.size]
theorem wsC_map (X : List ByteArray) : wsC (X.map (·.data.toList)) = X.map Value.string := by
  simp [wsC]
theorem split_is (l : List UInt8) (hl : l.length ≤ 100000) (w : World) (hw : EnvP w) :
    Calls Tryz.prog 30 #[.string ⟨l.toArray⟩, .string ⟨#[32]⟩] w fun e w' => e = .returned (.slice (some ⟨w.heap.size, 0, none⟩) (spl l).length (spl l).length) ∧ w' = w.alloc (.cells (wsC (spl l)).toArray 9) := by
  obtain ⟨_, _, m, hm⟩ := hw
  have h1 : ByteArray.size ⟨#[32]⟩ = 1 := rfl
  refine (Tryz.strings_Split ⟨l.toArray⟩ ⟨#[32]⟩ m w (by rw [size_mk]; omega) hm (by rw [h1]; omega)).mono ?_
  rintro e w' ⟨rfl, rfl⟩
  have hc : Lib.countB ⟨l.toArray⟩ ⟨#[32]⟩ = l.count 32 := Lib.count_one 32 l
  have hd := Lib.splitB_data ⟨#[32]⟩ 0 (l.count 32) ⟨l.toArray⟩
  have hs : Lib.splitK (ByteArray.data ⟨#[32]⟩).toList 0 (l.count 32) (ByteArray.data ⟨l.toArray⟩).toList = spl l := splitK_spl l
  rw [hs] at hd
  rw [hc, spl_len, ← wsC_map, hd]
  exact ⟨rfl, rfl⟩
/-- a Stat's row -/
def xRow (x : Nat → Int) (a b : Nat) : Array Value := #[.int .u64 (x 0), .int .u64 (x 1), .int .u64 (x 2), .int .u64 (x 3), .int .u64 (x 4), .int .u64 (x 5), .int .u64 (x 6), .int .u64 (x 7), .int .u64 (x 8), .int .u64 (x 9), .complex .f64 a b]
theorem statV_row (x : Nat → Int) (a b : Nat) : statV x a b = .agg (xRow x a b) := rfl
def ltX (x : Nat → Int) (k : Nat) : Nat → Int := fun j => if j < k then x j else 0
theorem xRow_set (x : Nat → Int) (k : Nat) (hk : k < 10) (v : Int) (hv : x k = v) : (xRow (ltX x k) 0 0).setIfInBounds k (.int .u64 v) = xRow (ltX x (k + 1)) 0 0 := by
  subst hv
  have : k = 0 ∨ k = 1 ∨ k = 2 ∨ k = 3 ∨ k = 4 ∨ k = 5 ∨ k = 6 ∨ k = 7 ∨ k = 8 ∨ k = 9 := by omega
  rcases this with rfl | rfl | rfl | rfl | rfl | rfl | rfl | rfl | rfl | rfl <;> simp [xRow, ltX]
theorem xRow_zero (x : Nat → Int) : xRow (ltX x 0) 0 0 = xRow (fun _ => 0) 0 0 := by simp [xRow, ltX]
theorem xRow_ten (x : Nat → Int) (a b : Nat) : xRow (ltX x 10) a b = xRow x a b := by simp [xRow, ltX]
theorem wrd_cell {w : World} {B : Nat} {ws : List (List UInt8)} (h : w.heap[B]? = some (.cells (wsC ws).toArray 9 (0, 0))) (j : Nat) (hj : j < ws.length) : w.cell? ⟨B, j, none⟩ = some (.string ⟨(wrd ws j).toArray⟩) := by
  rw [Lib.cell_of_heap h, List.getElem?_toArray, wsC_get hj]
  rfl
theorem str_eq (a b : List UInt8) (r : Bool) (h : r = decide (a = b)) : ((⟨a.toArray⟩ : ByteArray).toList == (⟨b.toArray⟩ : ByteArray).toList) = r := by
  rw [ByteArray.toList_eq, ByteArray.toList_eq, h]
  by_cases e : a = b
  · subst e; simp
  · simp [e]
end Go.Proofs.YthohoendjipleaaGreatDoor
