/-
  reads and the law HandleReads, walked. Conditions: the listed variables read as laid.
-/
import Derived.Test.YtpfnccjfmbecfaaDoorY
namespace Go.Proofs.YtpfnccjfmbecfaaDoor
open Go.RowKit Go.Sort Go.Lib

set_option maxRecDepth 100000 in
theorem reads_is (s : ByteArray) (hs : s.size ≤ 1000) (w : World) (hw : Laid w) : Calls Tryd.prog 10 #[.string s] w fun e w' => e = .returned (.bool true) ∧ Later w w' := by
  obtain ⟨x, y, z, k, hE⟩ := readEnd_any s.data.toList
  have hA := fun w1 (h1 : Laid w1) => Read_is s.data.toList (by simpa using hs) x y z k hE w1 h1
  have hB := fun w1 => refRead_is s hs x y z k hE w1
  have e : (⟨s.data.toList.toArray⟩ : ByteArray) = s := by cases s; simp
  rw [e] at hA
  clear hE e
  have HA := Lib.hid hA
  have HB := Lib.hid hB
  clear hA hB
  go_enter Tryd.func10, Tryd.ntmps10
  go_wp2_with fail
  refine (HA.out _ hw).mono ?_
  rintro e w1 ⟨rfl, hb1⟩
  go_wp2_with fail
  refine (HB.out _).mono ?_
  rintro e w2 ⟨rfl, hb2⟩
  have p0 := cell_at hb2 (p := ⟨w1.heap.size, 0, none⟩) (v := .int .i64 x) (by go_cell) (by simp <;> omega)
  have p1 := cell_at hb2 (p := ⟨w1.heap.size, 1, none⟩) (v := .int .u32 y) (by go_cell) (by simp <;> omega)
  have p2 := cell_at hb2 (p := ⟨w1.heap.size, 2, none⟩) (v := .int .u8 z) (by go_cell) (by simp <;> omega)
  have hz : w1.heap.size < w2.heap.size := Nat.lt_of_lt_of_le (by simp) hb2.size
  have hl : Later w w2 := (hb1.alloc _).trans hb2
  clear hb1 hb2
  go_wp2_with fail
  go_ret
  exact ⟨rfl, hl.alloc _⟩
theorem HandleReads_any (s : ByteArray) (w : World) (hw : Laid w) : Calls Tryd.prog 3 #[.string s] w fun e w' => e = .returned (.bool true) ∧ Later w w' := by
  by_cases h : 300 < s.size
  · go_enter Tryd.func3, Tryd.ntmps3
    go_wp2_with fail
    refine (awake_is _ hw).mono ?_
    rintro e w1 ⟨rfl, hb1⟩
    go_wp2_with fail
    go_ret
    exact ⟨rfl, hb1⟩
  · go_enter Tryd.func3, Tryd.ntmps3
    go_wp2_with fail
    refine (reads_is s (by omega) _ hw).mono ?_
    rintro e w1 ⟨rfl, hb1⟩
    go_wp2_with fail
    refine (awake_is _ (hw.later hb1)).mono ?_
    rintro e w2 ⟨rfl, hb2⟩
    go_wp2_with fail
    go_ret
    exact ⟨rfl, hb1.trans hb2⟩
end Go.Proofs.YtpfnccjfmbecfaaDoor
