/-
  The walks of package load: the parts of a load. Conditions: the words are those of numbers from 0 to 2.
-/
import Derived.Test.YthohoendjipleaaGreatDoorChecked
import Derived.Test.YthohoendjipleaaGreatDoorFl
import Derived.WalkKit
import Derived.WalkLawsBesides
import Derived.WalkSpells
import Derived.ProofKit
import Derived.Lib.Hide
import Derived.LoopN
import Derived.Handy
import Derived.MapKept
import Derived.Carry
import Derived.Outline
namespace Go.Proofs.YthohoendjipleaaGreatDoor
open Go.RowKit

/-- w' is w with at most new blocks and draws. -/
def Later (w w' : World) : Prop := Below w.heap.size w w'
theorem Later.refl (w : World) : Later w w := Below.refl _ _
theorem Later.trans {a b c : World} (h : Later a b) (k : Later b c) : Later a c := Below.trans h (Below.mono k h.size)
theorem Later.alloc {a b : World} (h : Later a b) (o : Obj) : Later a (b.alloc o) := Below.alloc h h.size o
theorem Later.drew {a b : World} (h : Later a b) : Later a b.drew := Below.drew h
theorem Later.drewN {a b : World} (h : Later a b) (n : Nat) : Later a (b.drewN n) := h.trans ⟨rfl, rfl, rfl, Nat.le_refl _, fun _ _ => rfl⟩
theorem Later.setCell {a b : World} (h : Later a b) (p : Addr) (u : Value) (hp : a.heap.size ≤ p.block) : Later a (b.setCell p u) := Below.setCell h hp u
theorem Later.size {a b : World} (h : Later a b) : a.heap.size ≤ b.heap.size := Below.size h
theorem cell_at {w w' : World} (hl : Later w w') {p : Addr} {v : Value} (h : w.cell? p = some v) (hp : p.block < w.heap.size) : w'.cell? p = some v := (Below.cell hl hp).trans h
theorem frz_at {w w' : World} (hl : Later w w') {p : Addr} {b : Bool} (h : w.frozen? p = b) (hp : p.block < w.heap.size) : w'.frozen? p = b := (Below.frozen hl hp).trans h

theorem parts_is (a b : Nat) (w : World) : Calls Tryz.prog 97 #[.complex .f64 a b] w fun e w' => e = .returned (.tuple #[.float .f64 a, .float .f64 b]) ∧ w = w' := by
  go_enter Tryz.func97, Tryz.ntmps97
  go_wp2
  go_ret2
  exact ⟨rfl, rfl⟩
theorem ord_pos (a b : Nat) (ha : a ≤ W2) (hb : b ≤ W2) : FloatKind.f64.format.order a b = some (compare a b) :=
  order_pos a b (by unfold W2 at ha; omega) (by unfold W2 at hb; omega)
theorem ord_zero (a : Nat) (ha : a ≤ W2) : FloatKind.f64.format.order a 0 = some .gt ∨ FloatKind.f64.format.order a 0 = some .eq := by
  rw [ord_pos a 0 ha (by omega)]
  rcases Nat.lt_trichotomy a 0 with h | h | h
  · omega
  · subst h; exact .inr rfl
  · rw [Nat.compare_eq_gt.2 h]; exact .inl rfl
theorem ord_two (a : Nat) (ha : a ≤ W2) : FloatKind.f64.format.order a 4611686018427387904 = some .lt ∨ FloatKind.f64.format.order a 4611686018427387904 = some .eq := by
  rw [ord_pos a _ ha (by unfold W2; omega)]
  rcases Nat.lt_or_eq_of_le ha with h | h
  · have h' : a < 4611686018427387904 := h
    rw [Nat.compare_eq_lt.2 h']; exact .inl rfl
  · subst h; exact .inr (by simp [W2])
theorem may_is (a : Nat) (ha : a ≤ W2) (w : World) : Calls Tryz.prog 96 #[.float .f64 a] w fun e w' => e = .returned (.bool true) ∧ w = w' := by
  rcases ord_zero a ha with h1 | h1 <;> rcases ord_two a ha with h2 | h2 <;> clear ha
  all_goals
    go_enter Tryz.func96, Tryz.ntmps96
    go_wp2
    go_ret
    exact ⟨rfl, rfl⟩
theorem is_is (a b : Nat) (ha : a ≤ W2) (hb : b ≤ W2) (w : World) : Calls Tryz.prog 63 #[.complex .f64 a b] w fun e w' => e = .returned (.bool true) ∧ w = w' := by
  go_enter Tryz.func63, Tryz.ntmps63
  go_wp2_with fail
  refine (parts_is a b _).mono ?_
  rintro e w1 ⟨rfl, rfl⟩
  go_wp2_with fail
  refine (may_is a ha _).mono ?_
  rintro e w2 ⟨rfl, rfl⟩
  go_wp2_with fail
  refine (may_is b hb _).mono ?_
  rintro e w3 ⟨rfl, rfl⟩
  go_wp2_with fail
  go_ret
  exact ⟨rfl, rfl⟩
theorem Is_is (a b : Nat) (ha : a ≤ W2) (hb : b ≤ W2) (w : World) : Calls Tryz.prog 40 #[.complex .f64 a b] w fun e w' => e = .returned (.bool true) ∧ w = w' := by
  go_enter Tryz.func40, Tryz.ntmps40
  go_wp2_with fail
  refine (is_is a b ha hb _).mono ?_
  rintro e w3 ⟨rfl, rfl⟩
  go_wp2_with fail
  go_ret
  exact ⟨rfl, rfl⟩
theorem half_is (a b c d : Nat) (hc : Ieee.double.div a W2 = some c) (hd : Ieee.double.div b W2 = some d) (w : World) : Calls Tryz.prog 73 #[.complex .f64 a b] w fun e w' => e = .returned (.complex .f64 c d) ∧ w = w' := by
  have h1 : ∀ w : World, (binOp .quo 81 (.float .f64 a) (.float .f64 4611686018427387904)).run Tryz.prog w = .ok (.float .f64 c) w := fun w => run_float_arith w .quo 81 .f64 a _ c hc
  have h2 : ∀ w : World, (binOp .quo 81 (.float .f64 b) (.float .f64 4611686018427387904)).run Tryz.prog w = .ok (.float .f64 d) w := fun w => run_float_arith w .quo 81 .f64 b _ d hd
  clear hc hd
  go_enter Tryz.func73, Tryz.ntmps73
  go_wp2_with fail
  refine (parts_is a b _).mono ?_
  rintro e w1 ⟨rfl, rfl⟩
  go_wp2_with fail
  go_ret
  exact ⟨rfl, rfl⟩

theorem run_put (T E : TypeId) (hT : Tryz.prog.underlying T = some (.map 30 E)) (w : World) (es : Array MapEntry) (clock : Nat) (k : Int) (v : Value) (hn : Instr.findNow (.int .i64) (.int .i64 k) es.toList 0 = some none) :
    (Instr.mapUpdate T (.map (some w.heap.size)) (.int .i64 k) v).run Tryz.prog (w.alloc (.map es clock)) = .ok () (w.alloc (.map (es.push { key := .int .i64 k, val := v, born := clock }) (clock + 1))) := by
  unfold Instr.mapUpdate
  simp only [Sem.run_bind, run_underlying hT, Result.andThen, MapKept.run_getObj_map (MapKept.heap_alloc w _).1, MapKept.run_checkKey Tryz.underlying30 (show MapKept.IsKey (.int .i64) (.int .i64 k) by simp [MapKept.IsKey]), MapKept.run_findKey Tryz.underlying30 hn, MapKept.run_setObj_map _ (MapKept.heap_alloc w _).1]
  have e : (w.alloc (.map es clock)).heap.setIfInBounds w.heap.size (.map (es.push { key := .int .i64 k, val := v, born := clock }) (clock + 1)) = w.heap.push (.map (es.push { key := .int .i64 k, val := v, born := clock }) (clock + 1)) := by
    show (w.heap.push _).setIfInBounds w.heap.size _ = _
    apply Array.ext
    · simp
    · intro i h1 h2
      have h2' : i < (w.heap.push (Obj.map es clock)).size := by rw [Array.size_push] at h2 ⊢; exact h2
      have hi : i ≤ w.heap.size := by rw [Array.size_push] at h2; omega
      by_cases hc : i < w.heap.size
      · have hne : w.heap.size ≠ i := by omega
        rw [Array.getElem_setIfInBounds_ne h2' hne]
        simp [Array.getElem_push, hc]
      · obtain rfl : i = w.heap.size := by omega
        simp
  rw [e]
  rfl
theorem run_look (T E : TypeId) (hT : Tryz.prog.underlying T = some (.map 30 E)) (B : Nat) (w : World) (es : Array MapEntry) (clock : Nat) (hB : w.heap[B]? = some (.map es clock)) (d : Int) (i : Nat) (v : Value) (hn : Instr.findNow (.int .i64) (.int .i64 d) es.toList 0 = some (some (i, v))) :
    (Instr.lookup T (.map (some B)) (.int .i64 d) false).run Tryz.prog w = .ok v w := by
  unfold Instr.lookup
  simp only [Sem.run_bind, run_underlying hT, Result.andThen, MapKept.run_getObj_map hB, Sem.run_pure, MapKept.run_checkKey Tryz.underlying30 (show MapKept.IsKey (.int .i64) (.int .i64 d) by simp [MapKept.IsKey]), MapKept.run_findKey Tryz.underlying30 hn]
  simp
theorem run_miss (T E : TypeId) (hT : Tryz.prog.underlying T = some (.map 30 E)) (B : Nat) (w : World) (es : Array MapEntry) (clock : Nat) (hB : w.heap[B]? = some (.map es clock)) (d : Int) (z : Value) (hz : (zeroValue E).run Tryz.prog w = .ok z w) (hn : Instr.findNow (.int .i64) (.int .i64 d) es.toList 0 = some none) :
    (Instr.lookup T (.map (some B)) (.int .i64 d) false).run Tryz.prog w = .ok z w := by
  unfold Instr.lookup
  simp only [Sem.run_bind, run_underlying hT, Result.andThen, MapKept.run_getObj_map hB, Sem.run_pure, MapKept.run_checkKey Tryz.underlying30 (show MapKept.IsKey (.int .i64) (.int .i64 d) by simp [MapKept.IsKey]), MapKept.run_findKey Tryz.underlying30 hn]
  simp [hz]
theorem run_store_complex (P : Program) (w : World) (a : Addr) (m : Mode) (k : FloatKind) (x y : Nat) : (store a (.complex k x y) m).run P w = stored P w a (.complex k x y) m := run_store P w a _ m rfl
end Go.Proofs.YthohoendjipleaaGreatDoor
