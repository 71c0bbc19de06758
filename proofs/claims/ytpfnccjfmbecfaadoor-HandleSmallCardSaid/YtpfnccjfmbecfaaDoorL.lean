/-
  handle.Read, walked. Conditions: the text is short; the listed variables read as laid.
-/
import Derived.Test.YtpfnccjfmbecfaaDoorK
namespace Go.Proofs.YtpfnccjfmbecfaaDoor
open Go.RowKit Go.Sort Go.Lib

/-- what the laid variables give -/
def Laid (w : World) : Prop := Tab w ∧ Errs w ∧ ∃ m, w.cell? ⟨2, 0, none⟩ = some (.int .i64 m)
theorem Laid.later {w w' : World} (h : Laid w) (hl : Later w w') : Laid w' := by
  obtain ⟨h1, h2, m, h3⟩ := h
  exact ⟨h1.later hl, h2.later hl, m, cell_later h3 hl⟩
theorem size_mk (l : List UInt8) : (⟨l.toArray⟩ : ByteArray).size = l.length := by simp [ByteArray.size]

theorem split_not (l : List UInt8) (hl : l.length ≤ 1000) (h : l.count 46 ≠ 2) (w : World) (hw : Laid w) :
    Calls Tryd.prog 22 #[.string ⟨l.toArray⟩, .string ⟨#[46]⟩] w fun e w' => (∃ n : Nat, e = .returned (.slice (some ⟨w.heap.size, 0, none⟩) n n) ∧ n ≠ 3) ∧ Later w w' := by
  obtain ⟨_, _, m, hm⟩ := hw
  have h46 : ByteArray.size ⟨#[46]⟩ = 1 := rfl
  refine (Tryd.strings_Split ⟨l.toArray⟩ ⟨#[46]⟩ m w (by rw [size_mk]; omega) hm (by rw [h46]; omega)).mono ?_
  rintro e w' ⟨rfl, rfl⟩
  have hc : Lib.countB ⟨l.toArray⟩ ⟨#[46]⟩ = l.count 46 := Lib.count_one 46 l
  rw [hc]
  exact ⟨⟨_, rfl, by omega⟩, (Later.refl w).alloc _⟩
theorem split_is (a b c : List UInt8) (ha : (46 : UInt8) ∉ a) (hb : (46 : UInt8) ∉ b) (hc : (46 : UInt8) ∉ c) (hl : (a ++ 46 :: (b ++ 46 :: c)).length ≤ 1000) (w : World) (hw : Laid w) :
    Calls Tryd.prog 22 #[.string ⟨(a ++ 46 :: (b ++ 46 :: c)).toArray⟩, .string ⟨#[46]⟩] w fun e w' => e = .returned (.slice (some ⟨w.heap.size, 0, none⟩) 3 3) ∧ w' = w.alloc (.cells #[.string ⟨a.toArray⟩, .string ⟨b.toArray⟩, .string ⟨c.toArray⟩] 9) := by
  obtain ⟨_, _, m, hm⟩ := hw
  have h46 : ByteArray.size ⟨#[46]⟩ = 1 := rfl
  refine (Tryd.strings_Split ⟨(a ++ 46 :: (b ++ 46 :: c)).toArray⟩ ⟨#[46]⟩ m w (by rw [size_mk]; omega) hm (by rw [h46]; omega)).mono ?_
  rintro e w' ⟨rfl, rfl⟩
  have hn : Lib.countB ⟨(a ++ 46 :: (b ++ 46 :: c)).toArray⟩ ⟨#[46]⟩ = 2 := by
    refine (Lib.count_one 46 _).trans ?_
    rw [List.count_append, List.count_cons_self, List.count_append, List.count_cons_self, List.count_eq_zero.2 ha, List.count_eq_zero.2 hb, List.count_eq_zero.2 hc]
  rw [hn, split_parts a b c ha hb]
  exact ⟨rfl, rfl⟩

theorem frz_at {w w' : World} (hl : Later w w') {p : Addr} {b : Bool} (h : w.frozen? p = b) (hp : p.block < w.heap.size) : w'.frozen? p = b := (Below.frozen hl hp).trans h

set_option maxRecDepth 100000 in
theorem Read_not (l : List UInt8) (hl : l.length ≤ 1000) (h : l.count 46 ≠ 2) (w : World) (hw : Laid w) :
    Calls Tryd.prog 13 #[.string ⟨l.toArray⟩] w fun e w' => e = .returned (.tuple #[.agg #[.int .i64 0, .int .u32 0, .int .u8 0], .int .i64 7]) ∧ Later w w' := by
  obtain ⟨S, hS⟩ : ∃ S : ByteArray, S = ⟨l.toArray⟩ := ⟨_, rfl⟩
  have hsp := fun w1 (h1 : Laid w1) => split_not l hl h w1 h1
  rw [← hS] at hsp ⊢
  clear hS hl h
  go_enter Tryd.func13, Tryd.ntmps13
  go_wp2_with fail
  refine (hsp _ (hw.later ((Later.refl w).alloc _))).mono ?_
  rintro e w1 ⟨⟨n, rfl, hn⟩, hb1⟩
  have hn' : ((n : Int) != 3) = true := by simp; omega
  have k0 := cell_at hb1 (p := ⟨w.heap.size, 0, none⟩) (v := .int .i64 0) (by go_cell) (by simp)
  have k1 := cell_at hb1 (p := ⟨w.heap.size, 1, none⟩) (v := .int .u32 0) (by go_cell) (by simp)
  have k2 := cell_at hb1 (p := ⟨w.heap.size, 2, none⟩) (v := .int .u8 0) (by go_cell) (by simp)
  have z0 := frz_at hb1 (p := ⟨w.heap.size, 0, none⟩) (b := false) (by simp) (by simp)
  have z1 := frz_at hb1 (p := ⟨w.heap.size, 1, none⟩) (b := false) (by simp) (by simp)
  have z2 := frz_at hb1 (p := ⟨w.heap.size, 2, none⟩) (b := false) (by simp) (by simp)
  have hls : Later w w1 := ((Later.refl w).alloc _).trans hb1
  clear hn hsp hb1
  go_wp2_with fail
  refine bodyPost_ret (v := .tuple #[.agg #[.int .i64 0, .int .u32 0, .int .u8 0], .int .i64 7]) (by simp [results, Tryd.results13, go_sem, k0, k1, k2]) rfl ⟨rfl, ?_⟩
  exact ((hls.setCell _ _ (Nat.le_refl _)).setCell _ _ (Nat.le_refl _)).setCell _ _ (Nat.le_refl _)
end Go.Proofs.YtpfnccjfmbecfaaDoor
