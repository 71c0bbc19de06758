/-
  What a deed asks: the map literal's look-up. Conditions: none.
-/
import Derived.Test.YtpfnccjfmbecfaaDoorA
namespace Go.Proofs.YtpfnccjfmbecfaaDoor
open Go.RowKit

/-! ### what a deed asks -/
/-- the right that a deed requires -/
def askR (d : Int) : Int := if d = 1 ∨ d = 6 then 1 else if d = 2 ∨ d = 3 ∨ d = 4 then 2 else if d = 5 then 4 else 0
theorem run_put (w : World) (es : Array MapEntry) (clock : Nat) (k q : Int) (hn : Instr.findNow (.int .i64) (.int .i64 k) es.toList 0 = some none) :
    (Instr.mapUpdate 61 (.map (some w.heap.size)) (.int .i64 k) (.int .u8 q)).run Tryd.prog (w.alloc (.map es clock)) = .ok () (w.alloc (.map (es.push { key := .int .i64 k, val := .int .u8 q, born := clock }) (clock + 1))) := by
  unfold Instr.mapUpdate
  simp only [Sem.run_bind, run_underlying Tryd.underlying61, Result.andThen, MapKept.run_getObj_map (MapKept.heap_alloc w _).1, MapKept.run_checkKey Tryd.underlying35 (show MapKept.IsKey (.int .i64) (.int .i64 k) by simp [MapKept.IsKey]), MapKept.run_findKey Tryd.underlying35 hn, MapKept.run_setObj_map _ (MapKept.heap_alloc w _).1]
  have e : (w.alloc (.map es clock)).heap.setIfInBounds w.heap.size (.map (es.push { key := .int .i64 k, val := .int .u8 q, born := clock }) (clock + 1)) = w.heap.push (.map (es.push { key := .int .i64 k, val := .int .u8 q, born := clock }) (clock + 1)) := by
    show (w.heap.push _).setIfInBounds w.heap.size _ = _
    apply Array.ext
    · simp
    · intro i h1 h2
      have h2' : i < (w.heap.push (Obj.map es clock)).size := by rw [Array.size_push] at h2 ⊢; exact h2
      have hi : i ≤ w.heap.size := by rw [Array.size_push] at h2; omega
      by_cases hc : i < w.heap.size
      · have hne : w.heap.size ≠ i := by omega
        rw [Array.getElem_setIfInBounds_ne h2' hne]
        simp [Array.getElem_push, hc]
      · obtain rfl : i = w.heap.size := by omega
        simp
  rw [e]
  rfl
theorem run_look (w : World) (es : Array MapEntry) (clock : Nat) (d : Int) (i : Nat) (q : Int) (hn : Instr.findNow (.int .i64) (.int .i64 d) es.toList 0 = some (some (i, .int .u8 q))) :
    (Instr.lookup 61 (.map (some w.heap.size)) (.int .i64 d) true).run Tryd.prog (w.alloc (.map es clock)) = .ok (.tuple #[.int .u8 q, .bool true]) (w.alloc (.map es clock)) := by
  unfold Instr.lookup
  simp only [Sem.run_bind, run_underlying Tryd.underlying61, Result.andThen, MapKept.run_getObj_map (MapKept.heap_alloc w _).1, Sem.run_pure, MapKept.run_checkKey Tryd.underlying35 (show MapKept.IsKey (.int .i64) (.int .i64 d) by simp [MapKept.IsKey]), MapKept.run_findKey Tryd.underlying35 hn]
  simp
theorem run_miss (w : World) (es : Array MapEntry) (clock : Nat) (d : Int) (hn : Instr.findNow (.int .i64) (.int .i64 d) es.toList 0 = some none) :
    (Instr.lookup 61 (.map (some w.heap.size)) (.int .i64 d) true).run Tryd.prog (w.alloc (.map es clock)) = .ok (.tuple #[.int .u8 0, .bool false]) (w.alloc (.map es clock)) := by
  have hz : (zeroValue 25).run Tryd.prog (w.alloc (.map es clock)) = .ok (.int .u8 0) (w.alloc (.map es clock)) := by kernel_rfl
  unfold Instr.lookup
  simp only [Sem.run_bind, run_underlying Tryd.underlying61, Result.andThen, MapKept.run_getObj_map (MapKept.heap_alloc w _).1, Sem.run_pure, MapKept.run_checkKey Tryd.underlying35 (show MapKept.IsKey (.int .i64) (.int .i64 d) by simp [MapKept.IsKey]), MapKept.run_findKey Tryd.underlying35 hn, hz]
  simp
/-- the literal's entries -/
def asks : List MapEntry := [⟨.int .i64 1, .int .u8 1, 0⟩, ⟨.int .i64 6, .int .u8 1, 1⟩, ⟨.int .i64 2, .int .u8 2, 2⟩, ⟨.int .i64 3, .int .u8 2, 3⟩, ⟨.int .i64 4, .int .u8 2, 4⟩, ⟨.int .i64 5, .int .u8 4, 5⟩]
theorem run_asks (w : World) (d : Int) :
    (Instr.lookup 61 (.map (some w.heap.size)) (.int .i64 d) true).run Tryd.prog (w.alloc (.map asks.toArray 6)) = .ok (.tuple #[.int .u8 (askR d), .bool (decide (0 < askR d))]) (w.alloc (.map asks.toArray 6)) := by
  by_cases h : d = 1 ∨ d = 6 ∨ d = 2 ∨ d = 3 ∨ d = 4 ∨ d = 5
  · rcases h with rfl | rfl | rfl | rfl | rfl | rfl
    · exact run_look w _ _ 1 0 1 (by simp [asks, Instr.findNow, Instr.sameNow])
    · exact run_look w _ _ 6 1 1 (by simp [asks, Instr.findNow, Instr.sameNow])
    · exact run_look w _ _ 2 2 2 (by simp [asks, Instr.findNow, Instr.sameNow])
    · exact run_look w _ _ 3 3 2 (by simp [asks, Instr.findNow, Instr.sameNow])
    · exact run_look w _ _ 4 4 2 (by simp [asks, Instr.findNow, Instr.sameNow])
    · exact run_look w _ _ 5 5 4 (by simp [asks, Instr.findNow, Instr.sameNow])
  · have e : askR d = 0 := by simp [askR]; omega
    rw [e]
    have n1 : (d == 1) = false := by simp; omega
    have n2 : (d == 2) = false := by simp; omega
    have n3 : (d == 3) = false := by simp; omega
    have n4 : (d == 4) = false := by simp; omega
    have n5 : (d == 5) = false := by simp; omega
    have n6 : (d == 6) = false := by simp; omega
    exact run_miss w _ _ d (by simp [asks, Instr.findNow, Instr.sameNow, n1, n2, n3, n4, n5, n6])
theorem Asks_is (d q : Int) (p : Bool) (hq : askR d = q) (hp : decide (0 < q) = p) (w : World) : Calls Tryd.prog 18 #[.int .i64 d] w fun e w' => e = .returned (.tuple #[.int .u8 q, .bool p]) ∧ Later w w' := by
  have h0 := run_makeMap (P := Tryd.prog) 61 w
  have p1 := run_put w #[] 0 1 1 (by simp [Instr.findNow])
  have p2 := run_put w (asks.take 1).toArray 1 6 1 (by simp [asks, Instr.findNow, Instr.sameNow])
  have p3 := run_put w (asks.take 2).toArray 2 2 2 (by simp [asks, Instr.findNow, Instr.sameNow])
  have p4 := run_put w (asks.take 3).toArray 3 3 2 (by simp [asks, Instr.findNow, Instr.sameNow])
  have p5 := run_put w (asks.take 4).toArray 4 4 2 (by simp [asks, Instr.findNow, Instr.sameNow])
  have p6 := run_put w (asks.take 5).toArray 5 5 4 (by simp [asks, Instr.findNow, Instr.sameNow])
  have g := run_asks w d
  rw [hq, hp] at g
  simp only [asks, List.take, List.push_toArray, List.nil_append, List.cons_append, Nat.reduceAdd] at p1 p2 p3 p4 p5 p6 g
  clear hq hp
  go_enter Tryd.func18, Tryd.ntmps18
  go_wp2_with fail
  go_ret2
  exact ⟨rfl, by repeat (first | exact Later.refl _ | assumption | apply Later.alloc | apply Later.drew | refine Later.trans ?_ (by assumption))⟩
end Go.Proofs.YtpfnccjfmbecfaaDoor
