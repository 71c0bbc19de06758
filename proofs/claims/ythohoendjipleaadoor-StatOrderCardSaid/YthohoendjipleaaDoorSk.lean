/-
  slices.SortStableFunc of Rank, at 20 indices or fewer. Conditions: the loads' parts are from 0 to 2.
-/
import Derived.Test.YthohoendjipleaaDoorCl
import Derived.Test.YthohoendjipleaaDoorSo
import Derived.Test.YthohoendjipleaaDoorShelf2
import Derived.Lib.OwnBridge
namespace Go.Proofs.YthohoendjipleaaDoor
open Go.RowKit Go.Sort Go.Lib
set_option linter.unusedSimpArgs false

def encF (m : Nat) : Fin (m + 1) → Value := fun x => .int .i64 (x.val : Int)
theorem sortWorld_below {m : Nat} {w0 w : World} {O q : Nat} {dk : Array (Fin (m + 1))} {os : Array Obj} (h : Later w0 w) (hO : w0.heap.size ≤ O) : Later w0 (sortWorld (encF m) w O 0 q dk os) := by
  have h1 : Below w0.heap.size w0 (putRow (encF m) (Sort.ahead w q) O 0 dk) := below_putRow h hO
  unfold sortWorld
  refine ⟨h1.os, h1.tape, h1.output, by rw [size_grow]; exact Nat.le_trans h1.size (Nat.le_add_right _ _), fun k hk => ?_⟩
  rw [← h1.block k hk]
  have := h1.size
  exact heap_grow_old _ _ (by omega)
theorem SW.later {m : Nat} {w0 w w' : World} {O : Nat} {dk : Array (Fin (m + 1))} (h : SW (encF m) w O 0 dk w') (hl : Later w0 w) (hO : w0.heap.size ≤ O) : Later w0 w' := by
  obtain ⟨q, os, rfl⟩ := h
  exact sortWorld_below hl hO
theorem cmp_lays (m : Nat) (A B : Nat → Nat) (hA : ∀ i, A i ≤ W2) (hB : ∀ i, B i ≤ W2) (lb G gcap O sz : Nat) (w : World) (hlb : lb < w.heap.size) (hG : G < w.heap.size) (h1 : lb ≠ O) (h2 : G ≠ O)
    (hl : w.cell? ⟨lb, 0, none⟩ = some (.slice (some ⟨G, 0, none⟩) (m + 1) gcap)) (hc : ∀ i, i < m + 1 → w.cell? ⟨G, i * 11 + 10, none⟩ = some (.complex .f64 (A i) (B i))) :
    CmpLays1 Tryd.prog 36 #[.pointer (some ⟨lb, 0, none⟩)] (encF m) (fun x y => cfR A B x.val y.val) O 0 sz w := by
  intro m' os dk hs x y
  have hsz : w.heap.size ≤ (sortWorld (encF m) w O 0 m' dk os).heap.size := by unfold sortWorld; rw [size_grow, size_putRow]; exact Nat.le_add_right _ _
  have hk : ∀ (a : Addr) (v : Value), a.block < w.heap.size → a.block ≠ O → w.cell? a = some v → (sortWorld (encF m) w O 0 m' dk os).cell? a = some v := fun a v ha hne hv => by
    unfold sortWorld
    rw [cell?_grow _ _ _ (by rw [size_putRow]; exact ha), cell?_putRow_other _ _ _ _ _ _ (.inl hne)]
    exact hv
  exact cmp_is lb G (m + 1) gcap A B hA hB x.val y.val x.isLt y.isLt _ (Nat.lt_of_lt_of_le hlb hsz) (Nat.lt_of_lt_of_le hG hsz) (hk _ _ hlb h1 hl) (fun i hi => hk _ _ hG h2 (hc i hi))
theorem ltOf_cf (m : Nat) (A B : Nat → Nat) : ltOf (fun x y : Fin (m + 1) => cfR A B x.val y.val) = ltR A B := by
  funext x y
  have h : (cfR A B x.val y.val < 0) ↔ lessL (A y.val) (B y.val) (A x.val) (B x.val) = true := by
    unfold cfR
    by_cases h1 : lessL (A y.val) (B y.val) (A x.val) (B x.val) = true
    · rw [if_pos h1]; exact ⟨fun _ => h1, fun _ => by omega⟩
    · rw [if_neg h1]
      refine ⟨fun h2 => ?_, fun h2 => absurd h2 h1⟩
      split at h2 <;> omega
  by_cases h1 : lessL (A y.val) (B y.val) (A x.val) (B x.val) = true
  · rw [show ltR A B x y = true from h1]
    exact decide_eq_true (h.2 h1)
  · rw [show ltR A B x y = false from Bool.eq_false_iff.2 h1]
    exact decide_eq_false (fun h2 => h1 (h.1 h2))
theorem ins_stop (m : Nat) (lt : Fin (m + 1) → Fin (m + 1) → Bool) (d : Array (Fin (m + 1))) (b : Nat) : insertionSort lt d b b = d := by
  unfold insertionSort
  rw [insOuter, if_neg (by omega)]

set_option maxRecDepth 100000 in
set_option maxHeartbeats 3200000 in
theorem stable52 (m N : Nat) (hN : m + 1 = N) (hm : N ≤ 20) (A B : Nat → Nat) (hA : ∀ i, A i ≤ W2) (hB : ∀ i, B i ≤ W2) (lb G gcap O ocap : Nat) (w : World) (hlb : lb < w.heap.size) (hG : G < w.heap.size) (h1 : lb ≠ O) (h2 : G ≠ O)
    (hl : w.cell? ⟨lb, 0, none⟩ = some (.slice (some ⟨G, 0, none⟩) N gcap)) (hc : ∀ i, i < N → w.cell? ⟨G, i * 11 + 10, none⟩ = some (.complex .f64 (A i) (B i)))
    (hO : O < w.heap.size) (hH : Holds (encF m) w O 0 (idx m)) :
    Calls Tryd.prog 52 #[.slice (some ⟨O, 0, none⟩) N ocap, .int .i64 (N : Int), .func (.func 36) #[] #[.pointer (some ⟨lb, 0, none⟩)]] w fun e w' => e = .returned (.tuple #[]) ∧ SW (encF m) w O 0 (rkO (ltR A B)) w' := by
  have hcmp := cmp_lays m A B hA hB lb G gcap O (idx m).size w hlb hG h1 h2 (by rw [hN]; exact hl) (by rw [hN]; exact hc)
  have eg : ∀ args w, (callFunc 36 args).run Tryd.prog w = .ok (.enter 36 args) w := enters_of Tryd.func36 (by kernel_rfl) rfl
  have R : Row1 (encF m) w O 0 (idx m) := ⟨fun _ => rfl, hH, hO⟩
  have hrs : (rkO (ltR (m := m) A B)).size = m + 1 := (rk_law (ltR A B) (ltR_swo A B)).1
  have k1 : ∀ W, SW (encF m) w O 0 (idx m) W → Calls Tryd.prog 57 #[.slice (some ⟨O, 0, none⟩) N ocap, .int .i64 0, .int .i64 (N : Int), .func (.func 36) #[] #[.pointer (some ⟨lb, 0, none⟩)]] W fun e w' => e = .returned (.tuple #[]) ∧ SW (encF m) w O 0 (rkO (ltR A B)) w' := fun W hS => by
    have := Tryd.insertionSortCmpFunc_s (encF m) (fun x y => cfR A B x.val y.val) 36 #[.pointer (some ⟨lb, 0, none⟩)] O 0 ocap 0 (m + 1) (idx m) (idx m) w W eg hcmp R rfl hS (by omega) (by rw [idx_size]; omega) (by rw [idx_size]; omega)
    rw [ltOf_cf, idx_size] at this
    rw [← hN]
    exact this
  have k2 : ∀ W, SW (encF m) w O 0 (rkO (ltR A B)) W → Calls Tryd.prog 57 #[.slice (some ⟨O, 0, none⟩) N ocap, .int .i64 (N : Int), .int .i64 (N : Int), .func (.func 36) #[] #[.pointer (some ⟨lb, 0, none⟩)]] W fun e w' => e = .returned (.tuple #[]) ∧ SW (encF m) w O 0 (rkO (ltR A B)) w' := fun W hS => by
    have := Tryd.insertionSortCmpFunc_s (encF m) (fun x y => cfR A B x.val y.val) 36 #[.pointer (some ⟨lb, 0, none⟩)] O 0 ocap (m + 1) (m + 1) (idx m) (rkO (ltR A B)) w W eg hcmp R (by rw [idx_size, hrs]) hS (by omega) (by rw [hrs]; omega) (by rw [hrs]; omega)
    rw [ltOf_cf, ins_stop, hrs] at this
    rw [← hN]
    exact this
  have hS0 : SW (encF m) w O 0 (idx m) w := SW.start hH
  generalize rkO (ltR A B) = out at *
  have K1 := Lib.hid k1
  have K2 := Lib.hid k2
  have HS := Lib.hid hS0
  clear hcmp R hrs k1 k2 hS0 hl hc hH hlb hG h1 h2 hA hB eg
  by_cases h20 : N = 20
  · subst h20
    go_enter Tryd.func52, Tryd.ntmps52
    go_wp2_with fail
    refine wp_loop_rounds 2 ?_
    rw [rounds_succ]
    go_wp2_with fail
    refine (K1.out _ HS.out).mono ?_
    rintro e w1 ⟨rfl, hS1⟩
    have HS1 := Lib.hid hS1
    clear hS1
    go_wp2_with fail
    rw [rounds_succ]
    go_wp2_with fail
    refine (K2.out _ HS1.out).mono ?_
    rintro e w2 ⟨rfl, hS2⟩
    have HS2 := Lib.hid hS2
    clear hS2
    go_wp2_with fail
    refine wp_loop_rounds 1 ?_
    rw [rounds_succ]
    go_wp2_with fail
    go_end0
    exact ⟨rfl, HS2.out⟩
  · have hd1 : decide (20 ≤ (N : Int)) = false := by simp; omega
    have hd2 : decide (20 ≤ N) = false := by simp; omega
    have hd3 : decide (20 < (N : Int)) = false := by simp; omega
    have hd4 : decide (20 < N) = false := by simp; omega
    clear h20
    go_enter Tryd.func52, Tryd.ntmps52
    go_wp2_with fail
    refine wp_loop_rounds 1 ?_
    rw [rounds_succ]
    go_wp2_with fail
    refine (K1.out _ HS.out).mono ?_
    rintro e w1 ⟨rfl, hS1⟩
    have HS1 := Lib.hid hS1
    clear hS1
    go_wp2_with fail
    refine wp_loop_rounds 1 ?_
    rw [rounds_succ]
    go_wp2_with fail
    go_end0
    exact ⟨rfl, HS1.out⟩
theorem stable35 (m N : Nat) (hN : m + 1 = N) (hm : N ≤ 20) (A B : Nat → Nat) (hA : ∀ i, A i ≤ W2) (hB : ∀ i, B i ≤ W2) (lb G gcap O ocap : Nat) (w : World) (hlb : lb < w.heap.size) (hG : G < w.heap.size) (h1 : lb ≠ O) (h2 : G ≠ O)
    (hl : w.cell? ⟨lb, 0, none⟩ = some (.slice (some ⟨G, 0, none⟩) N gcap)) (hc : ∀ i, i < N → w.cell? ⟨G, i * 11 + 10, none⟩ = some (.complex .f64 (A i) (B i)))
    (hO : O < w.heap.size) (hH : Holds (encF m) w O 0 (idx m)) :
    Calls Tryd.prog 35 #[.slice (some ⟨O, 0, none⟩) N ocap, .func (.func 36) #[] #[.pointer (some ⟨lb, 0, none⟩)]] w fun e w' => e = .returned (.tuple #[]) ∧ SW (encF m) w O 0 (rkO (ltR A B)) w' := by
  have H := Lib.hid (stable52 m N hN hm A B hA hB lb G gcap O ocap w hlb hG h1 h2 hl hc hO hH)
  clear hl hc hH
  go_enter Tryd.func35, Tryd.ntmps35
  go_wp2_with fail
  refine H.out.mono ?_
  rintro e w2 ⟨rfl, hS2⟩
  have HS2 := Lib.hid hS2
  clear hS2
  go_wp2_with fail
  go_end0
  exact ⟨rfl, HS2.out⟩
theorem nil57 (fn : Value) (w : World) : Calls Tryd.prog 57 #[.slice none 0 0, .int .i64 0, .int .i64 0, fn] w fun e w' => e = .returned (.tuple #[]) ∧ Later w w' := by
  go_enter Tryd.func57, Tryd.ntmps57
  go_wp2_with fail
  refine wp_loop_rounds 1 ?_
  rw [rounds_succ]
  go_wp2_with fail
  go_end0
  exact ⟨rfl, by repeat (first | exact Later.refl _ | assumption | apply Later.alloc | apply Later.drew | apply Later.drewN | refine Later.trans ?_ (by assumption))⟩
theorem nil52 (fn : Value) (w : World) : Calls Tryd.prog 52 #[.slice none 0 0, .int .i64 0, fn] w fun e w' => e = .returned (.tuple #[]) ∧ Later w w' := by
  go_enter Tryd.func52, Tryd.ntmps52
  go_wp2_with fail
  refine wp_loop_rounds 1 ?_
  rw [rounds_succ]
  go_wp2_with fail
  refine (nil57 fn _).mono ?_
  rintro e w1 ⟨rfl, hl1⟩
  go_wp2_with fail
  refine wp_loop_rounds 1 ?_
  rw [rounds_succ]
  go_wp2_with fail
  go_end0
  exact ⟨rfl, hl1⟩
theorem nil35 (fn : Value) (w : World) : Calls Tryd.prog 35 #[.slice none 0 0, fn] w fun e w' => e = .returned (.tuple #[]) ∧ Later w w' := by
  go_enter Tryd.func35, Tryd.ntmps35
  go_wp2_with fail
  refine (nil52 fn _).mono ?_
  rintro e w1 ⟨rfl, hl1⟩
  go_wp2_with fail
  go_end0
  exact ⟨rfl, hl1⟩
end Go.Proofs.YthohoendjipleaaDoor
