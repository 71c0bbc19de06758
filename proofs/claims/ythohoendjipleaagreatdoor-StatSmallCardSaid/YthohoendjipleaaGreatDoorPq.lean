/-
  stat.Parse, walked. Conditions: the text has at most 100000 bytes; the listed variables read as laid.
-/
import Derived.Test.YthohoendjipleaaGreatDoorSp
import Derived.Test.YthohoendjipleaaGreatDoorIw
import Derived.Deep.DeepCutAuto
namespace Go.Proofs.YthohoendjipleaaGreatDoor
open Go.RowKit Go.Sort Go.Lib
set_option linter.unusedSimpArgs false
set_option linter.unusedVariables false

theorem setRow_cellsR {w3 : World} {R : Nat} {x : Nat → Int} {a b : Nat} (h : w3.heap[R]? = some (.cells (xRow x a b) 27 (0, 0))) :
    (w3.cell? ⟨R, 0, none⟩ = some (.int .u64 (x 0)) ∧ w3.cell? ⟨R, 1, none⟩ = some (.int .u64 (x 1)) ∧ w3.cell? ⟨R, 2, none⟩ = some (.int .u64 (x 2)) ∧ w3.cell? ⟨R, 3, none⟩ = some (.int .u64 (x 3)) ∧ w3.cell? ⟨R, 4, none⟩ = some (.int .u64 (x 4)) ∧ w3.cell? ⟨R, 5, none⟩ = some (.int .u64 (x 5))) ∧
    (w3.cell? ⟨R, 6, none⟩ = some (.int .u64 (x 6)) ∧ w3.cell? ⟨R, 7, none⟩ = some (.int .u64 (x 7)) ∧ w3.cell? ⟨R, 8, none⟩ = some (.int .u64 (x 8)) ∧ w3.cell? ⟨R, 9, none⟩ = some (.int .u64 (x 9)) ∧ w3.cell? ⟨R, 10, none⟩ = some (.complex .f64 a b)) := by
  refine ⟨⟨?_, ?_, ?_, ?_, ?_, ?_⟩, ?_, ?_, ?_, ?_, ?_⟩ <;> (rw [Lib.cell_of_heap h]; rfl)
theorem str_eqL (a b : List UInt8) (r : Bool) (h : r = decide (a = b)) : ((⟨a.toArray⟩ : ByteArray).toList == b) = r := by
  rw [ByteArray.toList_eq, h]
  by_cases e : a = b
  · subst e; simp
  · simp [e]
def xZ0 : Nat → Int := fun _ => 0
/-- what the result's block holds at the end -/
def EndR (w V : World) (R : Nat) (x : Nat → Int) (a b : Nat) : Prop := Later w V ∧ V.heap[R]? = some (.cells (xRow x a b) 27 (0, 0))
theorem EndR.mk {w V : World} {R : Nat} {x y : Nat → Int} {a b c d : Nat} (hl : Later w V) (hR : w.heap.size ≤ R) (h : V.heap[R]? = some (.cells (xRow y c d) 27 (0, 0))) : EndR w (V.setRow R (xRow x a b)) R x a b :=
  ⟨below_setRow hl hR _, setRow_heap V R _ _ 27 (0, 0) h⟩

set_option maxRecDepth 100000 in
set_option maxHeartbeats 4000000 in
theorem Parse_head (l : List UInt8) (hl : l.length ≤ 100000) (ws : List (List UInt8)) (hws : spl l = ws) (hh : ¬ headOK ws) (w : World) (hE : EnvP w) :
    Calls Tryz.prog 12 #[.string ⟨l.toArray⟩] w fun e w' => e = .returned (.tuple #[statV xZ0 0 0, .int .i64 7]) ∧ Later w w' := by
  obtain ⟨S, hS⟩ : ∃ S : ByteArray, S = ⟨l.toArray⟩ := ⟨_, rfl⟩
  have hsp := fun w1 (h1 : EnvP w1) => split_is l hl w1 h1
  rw [← hS] at hsp ⊢
  rw [hws] at hsp
  clear hS hl hws
  have HSP := Lib.hid hsp
  have hcase : (((ws.length : Int) != 23) = true ∧ ws.length ≠ 23) ∨ (((ws.length : Int) != 23) = false ∧ ws.length = 23 ∧ wrd ws 20 ≠ ldW) := by
    by_cases h : ws.length = 23
    · right
      refine ⟨by rw [h]; rfl, h, fun k => hh ⟨h, k⟩⟩
    · left
      refine ⟨?_, h⟩
      rw [bne_iff_ne]; omega
  clear hsp hh
  go_enter Tryz.func12, Tryz.ntmps12
  go_wp2_with fail
  refine (HSP.out _ (hE.later ((Later.refl w).alloc _))).mono ?_
  rintro e w1 ⟨rfl, hw1⟩
  have hR1 : w1.heap[w.heap.size]? = some (.cells (xRow xZ0 0 0) 27 (0, 0)) := by
    rw [hw1]; exact (Below.heap_alloc _ _ _ (by simp)).trans (MapKept.heap_alloc w _).1
  have hB1 : w1.heap[w.heap.size + 1]? = some (.cells (wsC ws).toArray 9 (0, 0)) := by
    rw [hw1]
    have := (MapKept.heap_alloc (w.alloc (.cells (xRow xZ0 0 0) 27)) (.cells (wsC ws).toArray 9)).1
    rwa [show (w.alloc (.cells (xRow xZ0 0 0) 27)).heap.size = w.heap.size + 1 by simp] at this
  have hl1 : Later w w1 := by rw [hw1]; exact ((Later.refl w).alloc _).alloc _
  have hz1 : w1.heap.size = w.heap.size + 1 + 1 := by rw [hw1]; simp
  clear hw1
  go_wp2_with fail
  refine (names_is _).mono ?_
  rintro e w2 ⟨N, hN1, hN2, rfl, hl2, hN⟩
  have hR2 := (Below.block hl2 w.heap.size (by omega)).trans hR1
  have hB2 := (Below.block hl2 (w.heap.size + 1) (by omega)).trans hB1
  have hl12 := hl1.trans hl2
  obtain ⟨n, hn⟩ : ∃ n, ws.length = n := ⟨_, rfl⟩
  have HEND := Lib.hid (EndR.mk (x := xZ0) (a := 0) (b := 0) hl12 (Nat.le_refl _) hR2)
  have HR2 := Lib.hid hR2
  rcases hcase with ⟨hc, hne⟩ | ⟨hc, h23, h20⟩
  · rw [hn] at hc ⊢
    clear hN hN1 hN2 hl1 hl2 hl12 hR1 hB1 hz1 hB2 hR2 hE hne hn
    go_wp2_with (first | (refine wpList_store_rowTo rfl 27 (.tmp 2) (.tmp 34) rfl rfl w.heap.size (xRow xZ0 0 0) rfl rfl 27 (xRow xZ0 0 0) HR2.out (by kernel_rfl) rfl (by kernel_rfl) ?_))
    have hend := HEND.out
    generalize w2.setRow w.heap.size (xRow xZ0 0 0) = w3 at hend ⊢
    obtain ⟨⟨u0, u1, u2, u3, u4, u5⟩, u6, u7, u8, u9, u10⟩ := setRow_cellsR hend.2
    exact bodyPost_ret (v := .tuple #[statV xZ0 0 0, .int .i64 7]) (by simp [results, Tryz.results12, go_sem, statV, u0, u1, u2, u3, u4, u5, u6, u7, u8, u9, u10]) rfl ⟨rfl, hend.1⟩
  · have hw20 := wrd_cell hB2 20 (by omega)
    have hst := str_eqL (wrd ws 20) ldW false (by simp [h20])
    obtain ⟨A, hA⟩ : ∃ A : ByteArray, (⟨(wrd ws 20).toArray⟩ : ByteArray) = A := ⟨_, rfl⟩
    rw [hA] at hst hw20
    have hst : (A.toList == [108, 111, 97, 100]) = false := hst
    rw [h23] at hn
    subst hn
    rw [h23]
    clear hN hN1 hN2 hl1 hl2 hl12 hR1 hB1 hz1 hB2 hR2 hE h20 hA hc
    go_wp2_with (first | (refine wpList_store_rowTo rfl 27 (.tmp 2) (.tmp 34) rfl rfl w.heap.size (xRow xZ0 0 0) rfl rfl 27 (xRow xZ0 0 0) HR2.out (by kernel_rfl) rfl (by kernel_rfl) ?_))
    have hend := HEND.out
    generalize w2.setRow w.heap.size (xRow xZ0 0 0) = w3 at hend ⊢
    obtain ⟨⟨u0, u1, u2, u3, u4, u5⟩, u6, u7, u8, u9, u10⟩ := setRow_cellsR hend.2
    exact bodyPost_ret (v := .tuple #[statV xZ0 0 0, .int .i64 7]) (by simp [results, Tryz.results12, go_sem, statV, u0, u1, u2, u3, u4, u5, u6, u7, u8, u9, u10]) rfl ⟨rfl, hend.1⟩
end Go.Proofs.YthohoendjipleaaGreatDoor
