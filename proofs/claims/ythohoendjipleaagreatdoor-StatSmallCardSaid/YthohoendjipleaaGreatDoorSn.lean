/-
  Package stat: Next at any answer's error and pairs; After and Next where the deed or the load is none; the law StatNexts at the inputs of the closed statement, walked. Conditions: the counters are words; the load is one, or 3; at most a million pairs; the listed variables read as laid.
-/
import Derived.Test.YthohoendjipleaaGreatDoorO
import Derived.Test.YthohoendjipleaaGreatDoorNx
import Derived.Test.YthohoendjipleaaGreatDoorSm
import Derived.Test.YthohoendjipleaaGreatDoorAw
namespace Go.Proofs.YthohoendjipleaaGreatDoor
open Go.RowKit
set_option linter.unusedSimpArgs false
set_option linter.unusedVariables false

def ansP (er : Int) (p : Option Addr) (n c : Nat) : Array Value := #[.int .i64 er, .string ⟨#[]⟩, .slice p n c, .int .i64 0, .int .u32 0, .int .u8 0, .int .u64 0, .int .u64 0, .int .u64 0, .int .u64 0, .int .u64 0, .int .u64 0, .int .u64 0, .int .u64 0, .int .u64 0, .int .u64 0, .complex .f64 0 0]
set_option maxRecDepth 100000 in
set_option maxHeartbeats 8000000 in
theorem statNextP_is (x0 : Nat → Int) (a0 b0 : Nat) (hx0 : okX x0) (ha0 : a0 ≤ W2) (hb0 : b0 ≤ W2) (d er : Int) (p : Option Addr) (n c : Nat) (hd : 1 ≤ d ∧ d ≤ 6) (hn : n ≤ 1000000) (w : World) :
    Calls Tryz.prog 18 #[statV x0 a0 b0, .int .i64 d, .agg (ansP er p n c)] w fun e w' => e = .returned (.tuple #[statV (evX x0 ⟨d, er, p, n, c⟩) (nextR a0 d) (nextI b0 d), .bool true]) ∧ Later w w' := by
  have HX0 := Lib.hid hx0
  have HD := Lib.hid hd
  have HNN := Lib.hid hn
  clear hx0 hd hn
  unfold statV ansP
  go_enter Tryz.func18, Tryz.ntmps18
  go_upto_region 1 with fail
  obtain ⟨W, hW⟩ : ∃ W, ((w.alloc (.cells #[.int .u64 (x0 0), .int .u64 (x0 1), .int .u64 (x0 2), .int .u64 (x0 3), .int .u64 (x0 4), .int .u64 (x0 5), .int .u64 (x0 6), .int .u64 (x0 7), .int .u64 (x0 8), .int .u64 (x0 9), .complex .f64 a0 b0] 27)).alloc (.cells #[.int .i64 er, .string ⟨#[]⟩, .slice p n c, .int .i64 0, .int .u32 0, .int .u8 0, .int .u64 0, .int .u64 0, .int .u64 0, .int .u64 0, .int .u64 0, .int .u64 0, .int .u64 0, .int .u64 0, .int .u64 0, .int .u64 0, .complex .f64 0 0] 38)).alloc (.cells #[.int .u64 0, .int .u64 0, .int .u64 0, .int .u64 0, .int .u64 0, .int .u64 0, .int .u64 0, .int .u64 0, .int .u64 0, .int .u64 0, .complex .f64 0 0] 27) = W := ⟨_, rfl⟩
  have e1 : (w.alloc (.cells #[.int .u64 (x0 0), .int .u64 (x0 1), .int .u64 (x0 2), .int .u64 (x0 3), .int .u64 (x0 4), .int .u64 (x0 5), .int .u64 (x0 6), .int .u64 (x0 7), .int .u64 (x0 8), .int .u64 (x0 9), .complex .f64 a0 b0] 27)).heap.size = w.heap.size + 1 := by simp
  have e2 : ((w.alloc (.cells #[.int .u64 (x0 0), .int .u64 (x0 1), .int .u64 (x0 2), .int .u64 (x0 3), .int .u64 (x0 4), .int .u64 (x0 5), .int .u64 (x0 6), .int .u64 (x0 7), .int .u64 (x0 8), .int .u64 (x0 9), .complex .f64 a0 b0] 27)).alloc (.cells #[.int .i64 er, .string ⟨#[]⟩, .slice p n c, .int .i64 0, .int .u32 0, .int .u8 0, .int .u64 0, .int .u64 0, .int .u64 0, .int .u64 0, .int .u64 0, .int .u64 0, .int .u64 0, .int .u64 0, .int .u64 0, .int .u64 0, .complex .f64 0 0] 38)).heap.size = w.heap.size + 1 + 1 := by simp
  have hA : W.heap[w.heap.size + 1]? = some (.cells #[.int .i64 er, .string ⟨#[]⟩, .slice p n c, .int .i64 0, .int .u32 0, .int .u8 0, .int .u64 0, .int .u64 0, .int .u64 0, .int .u64 0, .int .u64 0, .int .u64 0, .int .u64 0, .int .u64 0, .int .u64 0, .int .u64 0, .complex .f64 0 0] 38 (0, 0)) := by
    have := heapB (w.alloc (.cells #[.int .u64 (x0 0), .int .u64 (x0 1), .int .u64 (x0 2), .int .u64 (x0 3), .int .u64 (x0 4), .int .u64 (x0 5), .int .u64 (x0 6), .int .u64 (x0 7), .int .u64 (x0 8), .int .u64 (x0 9), .complex .f64 a0 b0] 27)) (.cells #[.int .i64 er, .string ⟨#[]⟩, .slice p n c, .int .i64 0, .int .u32 0, .int .u8 0, .int .u64 0, .int .u64 0, .int .u64 0, .int .u64 0, .int .u64 0, .int .u64 0, .int .u64 0, .int .u64 0, .int .u64 0, .int .u64 0, .complex .f64 0 0] 38) (.cells #[.int .u64 0, .int .u64 0, .int .u64 0, .int .u64 0, .int .u64 0, .int .u64 0, .int .u64 0, .int .u64 0, .int .u64 0, .int .u64 0, .complex .f64 0 0] 27)
    rw [e1] at this; rw [← hW]; exact this
  have hR : W.heap[w.heap.size + 1 + 1]? = some (.cells #[.int .u64 0, .int .u64 0, .int .u64 0, .int .u64 0, .int .u64 0, .int .u64 0, .int .u64 0, .int .u64 0, .int .u64 0, .int .u64 0, .complex .f64 0 0] 27 (0, 0)) := by
    have := heapA (w.alloc (.cells #[.int .u64 (x0 0), .int .u64 (x0 1), .int .u64 (x0 2), .int .u64 (x0 3), .int .u64 (x0 4), .int .u64 (x0 5), .int .u64 (x0 6), .int .u64 (x0 7), .int .u64 (x0 8), .int .u64 (x0 9), .complex .f64 a0 b0] 27)) (.cells #[.int .i64 er, .string ⟨#[]⟩, .slice p n c, .int .i64 0, .int .u32 0, .int .u8 0, .int .u64 0, .int .u64 0, .int .u64 0, .int .u64 0, .int .u64 0, .int .u64 0, .int .u64 0, .int .u64 0, .int .u64 0, .int .u64 0, .complex .f64 0 0] 38) (.cells #[.int .u64 0, .int .u64 0, .int .u64 0, .int .u64 0, .int .u64 0, .int .u64 0, .int .u64 0, .int .u64 0, .int .u64 0, .int .u64 0, .complex .f64 0 0] 27)
    rw [e1] at this; rw [← hW]; exact this
  have hS : W.heap[w.heap.size]? = some (.cells #[.int .u64 (x0 0), .int .u64 (x0 1), .int .u64 (x0 2), .int .u64 (x0 3), .int .u64 (x0 4), .int .u64 (x0 5), .int .u64 (x0 6), .int .u64 (x0 7), .int .u64 (x0 8), .int .u64 (x0 9), .complex .f64 a0 b0] 27 (0, 0)) := by
    rw [← hW]; exact (Below.heap_alloc _ _ _ (by simp <;> omega)).trans (heapB w _ _)
  have k0 : W.cell? ⟨w.heap.size, 0, none⟩ = some (.int .u64 (x0 0)) := by simp [World.cell?, hS]
  have k1 : W.cell? ⟨w.heap.size, 1, none⟩ = some (.int .u64 (x0 1)) := by simp [World.cell?, hS]
  have k2 : W.cell? ⟨w.heap.size, 2, none⟩ = some (.int .u64 (x0 2)) := by simp [World.cell?, hS]
  have k3 : W.cell? ⟨w.heap.size, 3, none⟩ = some (.int .u64 (x0 3)) := by simp [World.cell?, hS]
  have k4 : W.cell? ⟨w.heap.size, 4, none⟩ = some (.int .u64 (x0 4)) := by simp [World.cell?, hS]
  have k5 : W.cell? ⟨w.heap.size, 5, none⟩ = some (.int .u64 (x0 5)) := by simp [World.cell?, hS]
  have k6 : W.cell? ⟨w.heap.size, 6, none⟩ = some (.int .u64 (x0 6)) := by simp [World.cell?, hS]
  have k7 : W.cell? ⟨w.heap.size, 7, none⟩ = some (.int .u64 (x0 7)) := by simp [World.cell?, hS]
  have k8 : W.cell? ⟨w.heap.size, 8, none⟩ = some (.int .u64 (x0 8)) := by simp [World.cell?, hS]
  have k9 : W.cell? ⟨w.heap.size, 9, none⟩ = some (.int .u64 (x0 9)) := by simp [World.cell?, hS]
  have k10 : W.cell? ⟨w.heap.size, 10, none⟩ = some (.complex .f64 a0 b0) := by simp [World.cell?, hS]
  have hlW : Later w W := by rw [← hW]; exact (((Later.refl w).alloc _).alloc _).alloc _
  have hWs : W.heap.size = w.heap.size + 1 + 1 + 1 := by rw [← hW]; simp
  try rw [hW]
  clear hW e1 e2
  have HRG := Lib.hid (rangeAt_block (w := W) (cs := [.int .i64 er, .string ⟨#[]⟩, .slice p n c, .int .i64 0, .int .u32 0, .int .u8 0, .int .u64 0, .int .u64 0, .int .u64 0, .int .u64 0, .int .u64 0, .int .u64 0, .int .u64 0, .int .u64 0, .int .u64 0, .int .u64 0, .complex .f64 0 0]) hA)
  have HWS := Lib.hid hWs
  have HR := Lib.hid hR
  clear hA hWs hR hS
  go_wp2_with (first | (refine wpList_load_mid rfl 38 (.tmp 5) rfl (w.heap.size + 1) 0 rfl [.int .i64 er, .string ⟨#[]⟩, .slice p n c, .int .i64 0, .int .u32 0, .int .u8 0, .int .u64 0, .int .u64 0, .int .u64 0, .int .u64 0, .int .u64 0, .int .u64 0, .int .u64 0, .int .u64 0, .int .u64 0, .int .u64 0, .complex .f64 0 0] _ HRG.out Tryz.underlying38 rfl (by kernel_rfl) ?_))
  have hev : ∀ i e, ([⟨d, er, p, n, c⟩] : List Ev)[i]? = some e → EvAt (W.alloc (.cells #[.int .i64 d, .int .i64 er, .string ⟨#[]⟩, .slice p n c, .int .i64 0, .int .u32 0, .int .u8 0, .int .u64 0, .int .u64 0, .int .u64 0, .int .u64 0, .int .u64 0, .int .u64 0, .int .u64 0, .int .u64 0, .int .u64 0, .int .u64 0, .complex .f64 0 0] 56)) W.heap.size (0 + i * 18) e := fun i e he => by
    match i, he with
    | 0, he =>
      obtain rfl : (⟨d, er, p, n, c⟩ : Ev) = e := by simpa using he
      exact EvAt_of_cells (fun j v hv => by
        rw [World.cell?_alloc_new]
        have : (#[.int .i64 d, .int .i64 er, .string ⟨#[]⟩, .slice p n c, .int .i64 0, .int .u32 0, .int .u8 0, .int .u64 0, .int .u64 0, .int .u64 0, .int .u64 0, .int .u64 0, .int .u64 0, .int .u64 0, .int .u64 0, .int .u64 0, .int .u64 0, .complex .f64 0 0] : Array Value)[0 + 0 * 18 + j]? = (evC ⟨d, er, p, n, c⟩)[j]? := by simp [evC]
        rw [this]; exact hv)
    | i + 1, he => simp at he
  refine (After_is W.heap.size 0 [⟨d, er, p, n, c⟩] 1 (by simp) (by intro e he; simp only [List.mem_cons, List.not_mem_nil, or_false] at he; subst he; exact ⟨HD.out.1, HD.out.2, HNN.out⟩) x0 a0 b0 HX0.out ha0 hb0 _ (by simp) hev).mono ?_
  rintro e w2 ⟨rfl, hb2⟩
  have hl2 := ((Later.refl W).alloc (.cells #[.int .i64 d, .int .i64 er, .string ⟨#[]⟩, .slice p n c, .int .i64 0, .int .u32 0, .int .u8 0, .int .u64 0, .int .u64 0, .int .u64 0, .int .u64 0, .int .u64 0, .int .u64 0, .int .u64 0, .int .u64 0, .int .u64 0, .int .u64 0, .complex .f64 0 0] 56)).trans hb2
  have hR2 : w2.heap[w.heap.size + 1 + 1]? = some (.cells #[.int .u64 0, .int .u64 0, .int .u64 0, .int .u64 0, .int .u64 0, .int .u64 0, .int .u64 0, .int .u64 0, .int .u64 0, .int .u64 0, .complex .f64 0 0] 27 (0, 0)) := (Below.block hl2 _ (by have := HWS.out; omega)).trans HR.out
  rw [show runX x0 [⟨d, er, p, n, c⟩] = evX x0 ⟨d, er, p, n, c⟩ from rfl, show runR a0 [⟨d, er, p, n, c⟩] = nextR a0 d from rfl, show runI b0 [⟨d, er, p, n, c⟩] = nextI b0 d from rfl]
  obtain ⟨y, hy⟩ : ∃ y, evX x0 ⟨d, er, p, n, c⟩ = y := ⟨_, rfl⟩
  obtain ⟨pp, hp⟩ : ∃ pp, nextR a0 d = pp := ⟨_, rfl⟩
  obtain ⟨q, hq⟩ : ∃ q, nextI b0 d = q := ⟨_, rfl⟩
  have HY := Lib.hid (And.intro hy (And.intro hp hq))
  rw [hy, hp, hq]
  clear hy hp hq hev hb2 k0 k1 k2 k3 k4 k5 k6 k7 k8 k9 k10
  unfold statV
  go_wp2_with (first | (refine wpList_store_rowTo rfl 27 (.tmp 6) (.tmp 14) rfl rfl (w.heap.size + 1 + 1) #[.int .u64 (y 0), .int .u64 (y 1), .int .u64 (y 2), .int .u64 (y 3), .int .u64 (y 4), .int .u64 (y 5), .int .u64 (y 6), .int .u64 (y 7), .int .u64 (y 8), .int .u64 (y 9), .complex .f64 pp q] rfl rfl 27 #[.int .u64 0, .int .u64 0, .int .u64 0, .int .u64 0, .int .u64 0, .int .u64 0, .int .u64 0, .int .u64 0, .int .u64 0, .int .u64 0, .complex .f64 0 0] hR2 (by kernel_rfl) rfl (by kernel_rfl) ?_))
  have hl3 : Later w (w2.setRow (w.heap.size + 1 + 1) #[.int .u64 (y 0), .int .u64 (y 1), .int .u64 (y 2), .int .u64 (y 3), .int .u64 (y 4), .int .u64 (y 5), .int .u64 (y 6), .int .u64 (y 7), .int .u64 (y 8), .int .u64 (y 9), .complex .f64 pp q]) := below_setRow (hlW.trans hl2) (by omega) _
  have u := fun j => cell_setRow_same w2 (w.heap.size + 1 + 1) j _ #[.int .u64 (y 0), .int .u64 (y 1), .int .u64 (y 2), .int .u64 (y 3), .int .u64 (y 4), .int .u64 (y 5), .int .u64 (y 6), .int .u64 (y 7), .int .u64 (y 8), .int .u64 (y 9), .complex .f64 pp q] 27 (0, 0) hR2
  have u0 := u 0
  have u1 := u 1
  have u2 := u 2
  have u3 := u 3
  have u4 := u 4
  have u5 := u 5
  have u6 := u 6
  have u7 := u 7
  have u8 := u 8
  have u9 := u 9
  have u10 := u 10
  clear u
  generalize w2.setRow (w.heap.size + 1 + 1) #[.int .u64 (y 0), .int .u64 (y 1), .int .u64 (y 2), .int .u64 (y 3), .int .u64 (y 4), .int .u64 (y 5), .int .u64 (y 6), .int .u64 (y 7), .int .u64 (y 8), .int .u64 (y 9), .complex .f64 pp q] = w3 at *
  exact bodyPost_ret (v := .tuple #[.agg #[.int .u64 (y 0), .int .u64 (y 1), .int .u64 (y 2), .int .u64 (y 3), .int .u64 (y 4), .int .u64 (y 5), .int .u64 (y 6), .int .u64 (y 7), .int .u64 (y 8), .int .u64 (y 9), .complex .f64 pp q], .bool true]) (by simp [results, Tryz.results18, go_sem, u0, u1, u2, u3, u4, u5, u6, u7, u8, u9, u10]) rfl ⟨by rw [HY.out.1, HY.out.2.1, HY.out.2.2], hl3⟩
theorem look_any (d : Int) : ∃ v, ((¬ (1 ≤ d ∧ d ≤ 5)) → v = Value.nilFunc) ∧ ∀ (M : Nat) (W : World), W.heap[M]? = some (.map ctrE.toArray 5) → (Instr.lookup 100 (.map (some M)) (.int .i64 d) false).run Tryz.prog W = .ok v W := by
  by_cases h : 1 ≤ d ∧ d ≤ 5
  · have hd : d = 1 ∨ d = 2 ∨ d = 3 ∨ d = 4 ∨ d = 5 := by omega
    rcases hd with rfl | rfl | rfl | rfl | rfl
    · exact ⟨_, fun k => absurd h k, fun M W hB => run_look 100 102 Tryz.underlying100 M W _ _ hB 1 0 (.func (.func 64) #[] #[]) (by simp [ctrE, Instr.findNow, Instr.sameNow])⟩
    · exact ⟨_, fun k => absurd h k, fun M W hB => run_look 100 102 Tryz.underlying100 M W _ _ hB 2 1 (.func (.func 65) #[] #[]) (by simp [ctrE, Instr.findNow, Instr.sameNow])⟩
    · exact ⟨_, fun k => absurd h k, fun M W hB => run_look 100 102 Tryz.underlying100 M W _ _ hB 3 2 (.func (.func 66) #[] #[]) (by simp [ctrE, Instr.findNow, Instr.sameNow])⟩
    · exact ⟨_, fun k => absurd h k, fun M W hB => run_look 100 102 Tryz.underlying100 M W _ _ hB 4 3 (.func (.func 67) #[] #[]) (by simp [ctrE, Instr.findNow, Instr.sameNow])⟩
    · exact ⟨_, fun k => absurd h k, fun M W hB => run_look 100 102 Tryz.underlying100 M W _ _ hB 5 4 (.func (.func 68) #[] #[]) (by simp [ctrE, Instr.findNow, Instr.sameNow])⟩
  · have h1 : (d == 1) = false := by rw [beq_eq_false_iff_ne]; omega
    have h2 : (d == 2) = false := by rw [beq_eq_false_iff_ne]; omega
    have h3 : (d == 3) = false := by rw [beq_eq_false_iff_ne]; omega
    have h4 : (d == 4) = false := by rw [beq_eq_false_iff_ne]; omega
    have h5 : (d == 5) = false := by rw [beq_eq_false_iff_ne]; omega
    have h1' : ¬ d = 1 := by omega
    exact ⟨Value.nilFunc, fun _ => rfl, fun M W hB => run_miss 100 102 Tryz.underlying100 M W _ _ hB d Value.nilFunc (by kernel_rfl) (by simp [ctrE, Instr.findNow, Instr.sameNow, h1, h1', h2, h3, h4, h5])⟩
set_option maxRecDepth 100000 in
set_option maxHeartbeats 16000000 in
theorem After_bad (x : Nat → Int) {a b : Nat} {r : Bool} (hr : LdOK a b r) (d er : Int) (p : Option Addr) (n c : Nat) (hd : r = true → ¬ (1 ≤ d ∧ d ≤ 6)) (E cap : Nat) (w : World) (hE : w.heap[E]? = some (.cells #[.int .i64 d, .int .i64 er, .string ⟨#[]⟩, .slice p n c, .int .i64 0, .int .u32 0, .int .u8 0, .int .u64 0, .int .u64 0, .int .u64 0, .int .u64 0, .int .u64 0, .int .u64 0, .int .u64 0, .int .u64 0, .int .u64 0, .int .u64 0, .complex .f64 0 0] 56 (0, 0))) :
    Calls Tryz.prog 17 #[.agg #[.int .u64 (x 0), .int .u64 (x 1), .int .u64 (x 2), .int .u64 (x 3), .int .u64 (x 4), .int .u64 (x 5), .int .u64 (x 6), .int .u64 (x 7), .int .u64 (x 8), .int .u64 (x 9), .complex .f64 a b], .slice (some ⟨E, 0, none⟩) 1 cap] w fun e w' => e = .returned (.tuple #[statV xZ0 0 0, .bool false]) ∧ Later w w' := by
  have HI := Lib.hid (fun W => statIs_both (x 0) (x 1) (x 2) (x 3) (x 4) (x 5) (x 6) (x 7) (x 8) (x 9) hr.both W)
  obtain ⟨lv, hlv, hlook⟩ := look_any d
  have HLK := Lib.hid hlook
  have HE := Lib.hid hE
  have HLV := Lib.hid hlv
  have hElt : E < w.heap.size := (Array.getElem?_eq_some_iff.1 hE).1
  have HEL := Lib.hid hElt
  have HD := Lib.hid hd
  clear hr hd hlv hlook hE hElt
  go_enter Tryz.func17, Tryz.ntmps17
  go_wp2_with fail
  refine (counterOf_is _).mono ?_
  rintro e w1 ⟨rfl, hw1⟩
  have s1 : (w.alloc (.cells #[.int .u64 (x 0), .int .u64 (x 1), .int .u64 (x 2), .int .u64 (x 3), .int .u64 (x 4), .int .u64 (x 5), .int .u64 (x 6), .int .u64 (x 7), .int .u64 (x 8), .int .u64 (x 9), .complex .f64 a b] 27)).heap.size = w.heap.size + 1 := by simp
  have s2 : ((w.alloc (.cells #[.int .u64 (x 0), .int .u64 (x 1), .int .u64 (x 2), .int .u64 (x 3), .int .u64 (x 4), .int .u64 (x 5), .int .u64 (x 6), .int .u64 (x 7), .int .u64 (x 8), .int .u64 (x 9), .complex .f64 a b] 27)).alloc (.cells (xRow xZ0 0 0) 27)).heap.size = w.heap.size + 1 + 1 := by simp
  have h1 := (MapKept.heap_alloc w (.cells #[.int .u64 (x 0), .int .u64 (x 1), .int .u64 (x 2), .int .u64 (x 3), .int .u64 (x 4), .int .u64 (x 5), .int .u64 (x 6), .int .u64 (x 7), .int .u64 (x 8), .int .u64 (x 9), .complex .f64 a b] 27)).1
  have h2 := (MapKept.heap_alloc (w.alloc (.cells #[.int .u64 (x 0), .int .u64 (x 1), .int .u64 (x 2), .int .u64 (x 3), .int .u64 (x 4), .int .u64 (x 5), .int .u64 (x 6), .int .u64 (x 7), .int .u64 (x 8), .int .u64 (x 9), .complex .f64 a b] 27)) (.cells (xRow xZ0 0 0) 27)).1
  have h3 := (MapKept.heap_alloc ((w.alloc (.cells #[.int .u64 (x 0), .int .u64 (x 1), .int .u64 (x 2), .int .u64 (x 3), .int .u64 (x 4), .int .u64 (x 5), .int .u64 (x 6), .int .u64 (x 7), .int .u64 (x 8), .int .u64 (x 9), .complex .f64 a b] 27)).alloc (.cells (xRow xZ0 0 0) 27)) (.map ctrE.toArray 5)).1
  rw [s1] at h2
  rw [s2] at h3
  have hw1' : w1 = ((w.alloc (.cells #[.int .u64 (x 0), .int .u64 (x 1), .int .u64 (x 2), .int .u64 (x 3), .int .u64 (x 4), .int .u64 (x 5), .int .u64 (x 6), .int .u64 (x 7), .int .u64 (x 8), .int .u64 (x 9), .complex .f64 a b] 27)).alloc (.cells (xRow xZ0 0 0) 27)).alloc (.map ctrE.toArray 5) := hw1
  have hS1 : w1.heap[w.heap.size]? = some (.cells (xRow x a b) 27 (0, 0)) := by
    rw [hw1']; exact (Below.heap_alloc _ _ _ (by omega)).trans ((Below.heap_alloc _ _ _ (by omega)).trans h1)
  have hR1 : w1.heap[w.heap.size + 1]? = some (.cells (xRow xZ0 0 0) 27 (0, 0)) := by
    rw [hw1']; exact (Below.heap_alloc _ _ _ (by omega)).trans h2
  have hM1 : w1.heap[w.heap.size + 1 + 1]? = some (.map ctrE.toArray 5) := by rw [hw1']; exact h3
  have hl1 : Later w w1 := by rw [hw1']; exact (((Later.refl w).alloc _).alloc _).alloc _
  have hz1 : w1.heap.size = w.heap.size + 1 + 1 + 1 := by rw [hw1']; simp
  have s2' : ((w.alloc (.cells #[.int .u64 (x 0), .int .u64 (x 1), .int .u64 (x 2), .int .u64 (x 3), .int .u64 (x 4), .int .u64 (x 5), .int .u64 (x 6), .int .u64 (x 7), .int .u64 (x 8), .int .u64 (x 9), .complex .f64 a b] 27)).alloc (.cells #[.int .u64 0, .int .u64 0, .int .u64 0, .int .u64 0, .int .u64 0, .int .u64 0, .int .u64 0, .int .u64 0, .int .u64 0, .int .u64 0, .complex .f64 0 0] 27)).heap.size = w.heap.size + 1 + 1 := by simp
  try rw [s2']
  obtain ⟨M, hM⟩ : ∃ M, w.heap.size + 1 + 1 = M := ⟨_, rfl⟩
  obtain ⟨R, hR⟩ : ∃ R, w.heap.size + 1 = R := ⟨_, rfl⟩
  obtain ⟨S, hS⟩ : ∃ S, w.heap.size = S := ⟨_, rfl⟩
  have hSR : w.heap.size ≤ R := by omega
  have hlt : S < w1.heap.size ∧ R < w1.heap.size ∧ M < w1.heap.size := by omega
  rw [hM] at hM1
  rw [hR] at hR1
  rw [hS] at hS1
  try rw [hM]
  try rw [hR]
  try rw [hS]
  obtain ⟨⟨c0, c1, c2, c3, c4, c5⟩, c6, c7, c8, c9, c10⟩ := setRow_cellsR hS1
  have HX := Lib.hid (And.intro hR1 (And.intro hM1 (And.intro hl1 (And.intro hSR hlt))))
  clear hw1 hw1' s1 s2 s2' h1 h2 h3 hS1 hR1 hM1 hl1 hz1 hM hR hS hSR hlt
  go_wp2_with fail
  refine (HI.out _).mono ?_
  rintro e w2 ⟨rfl, hl2⟩
  have HX2 := Lib.hid (And.intro ((Below.block hl2 R HX.out.2.2.2.2.2.1).trans HX.out.1) (And.intro ((Below.block hl2 M HX.out.2.2.2.2.2.2).trans HX.out.2.1) (And.intro (HX.out.2.2.1.trans hl2) HX.out.2.2.2.1)))
  have hE2 : w2.heap[E]? = some (.cells #[.int .i64 d, .int .i64 er, .string ⟨#[]⟩, .slice p n c, .int .i64 0, .int .u32 0, .int .u8 0, .int .u64 0, .int .u64 0, .int .u64 0, .int .u64 0, .int .u64 0, .int .u64 0, .int .u64 0, .int .u64 0, .int .u64 0, .int .u64 0, .complex .f64 0 0] 56 (0, 0)) := (Below.block (HX.out.2.2.1.trans hl2) E HEL.out).trans HE.out
  have HRG := Lib.hid (rangeAt_block (w := w2) (cs := [.int .i64 d, .int .i64 er, .string ⟨#[]⟩, .slice p n c, .int .i64 0, .int .u32 0, .int .u8 0, .int .u64 0, .int .u64 0, .int .u64 0, .int .u64 0, .int .u64 0, .int .u64 0, .int .u64 0, .int .u64 0, .int .u64 0, .int .u64 0, .complex .f64 0 0]) hE2)
  have HM2 := Lib.hid (And.intro HX2.out.2.1 (show M < w2.heap.size from (Array.getElem?_eq_some_iff.1 HX2.out.2.1).1))
  clear hl2 c0 c1 c2 c3 c4 c5 c6 c7 c8 c9 c10 HX HI hE2
  have hlook : ∀ o : Obj, (Instr.lookup 100 (.map (some M)) (.int .i64 d) false).run Tryz.prog (w2.alloc o) = .ok lv (w2.alloc o) := fun o => HLK.out M _ ((Below.heap_alloc w2 o M HM2.out.2).trans HM2.out.1)
  go_wp2_with fail
  refine wp_loop_rounds 1 ?_
  rw [rounds_succ]
  cases r with
  | false =>
    go_upto_region 23 with (first | (refine wpList_load_mid rfl 56 (.tmp 19) rfl E 0 rfl [.int .i64 d, .int .i64 er, .string ⟨#[]⟩, .slice p n c, .int .i64 0, .int .u32 0, .int .u8 0, .int .u64 0, .int .u64 0, .int .u64 0, .int .u64 0, .int .u64 0, .int .u64 0, .int .u64 0, .int .u64 0, .int .u64 0, .int .u64 0, .complex .f64 0 0] _ HRG.out Tryz.underlying56 rfl (by kernel_rfl) ?_) | (refine wpList_store_rowTo rfl 56 (.tmp 9) (.tmp 20) rfl rfl w2.heap.size #[.int .i64 d, .int .i64 er, .string ⟨#[]⟩, .slice p n c, .int .i64 0, .int .u32 0, .int .u8 0, .int .u64 0, .int .u64 0, .int .u64 0, .int .u64 0, .int .u64 0, .int .u64 0, .int .u64 0, .int .u64 0, .int .u64 0, .int .u64 0, .complex .f64 0 0] rfl rfl 56 #[.int .i64 0, .int .i64 0, .string ⟨#[]⟩, .slice none 0 0, .int .i64 0, .int .u32 0, .int .u8 0, .int .u64 0, .int .u64 0, .int .u64 0, .int .u64 0, .int .u64 0, .int .u64 0, .int .u64 0, .int .u64 0, .int .u64 0, .int .u64 0, .complex .f64 0 0] (heap_alloc_last w2 _) (by kernel_rfl) rfl (by kernel_rfl) ?_; rw [World.setRow_alloc_new]))
    have hrr : (w2.alloc (.cells #[.int .i64 d, .int .i64 er, .string ⟨#[]⟩, .slice p n c, .int .i64 0, .int .u32 0, .int .u8 0, .int .u64 0, .int .u64 0, .int .u64 0, .int .u64 0, .int .u64 0, .int .u64 0, .int .u64 0, .int .u64 0, .int .u64 0, .int .u64 0, .complex .f64 0 0] 56)).heap[R]? = some (.cells (xRow xZ0 0 0) 27 (0, 0)) := (Below.heap_alloc w2 _ R (Array.getElem?_eq_some_iff.1 HX2.out.1).1).trans HX2.out.1
    have hlw : Later w (w2.alloc (.cells #[.int .i64 d, .int .i64 er, .string ⟨#[]⟩, .slice p n c, .int .i64 0, .int .u32 0, .int .u8 0, .int .u64 0, .int .u64 0, .int .u64 0, .int .u64 0, .int .u64 0, .int .u64 0, .int .u64 0, .int .u64 0, .int .u64 0, .int .u64 0, .complex .f64 0 0] 56)) := HX2.out.2.2.1.alloc _
    obtain ⟨w3, hw3⟩ : ∃ w3, w2.alloc (.cells #[.int .i64 d, .int .i64 er, .string ⟨#[]⟩, .slice p n c, .int .i64 0, .int .u32 0, .int .u8 0, .int .u64 0, .int .u64 0, .int .u64 0, .int .u64 0, .int .u64 0, .int .u64 0, .int .u64 0, .int .u64 0, .int .u64 0, .int .u64 0, .complex .f64 0 0] 56) = w3 := ⟨_, rfl⟩
    rw [hw3] at hrr hlw
    rw [hw3]
    have HRR := Lib.hid hrr
    have HEND := Lib.hid (EndR.mk (x := xZ0) (a := 0) (b := 0) hlw HX2.out.2.2.2 hrr)
    clear hw3 hrr hlw hlook
    go_wp2_with (first | (refine wpList_store_rowTo rfl 27 (.tmp 4) (.tmp 80) rfl rfl R (xRow xZ0 0 0) rfl rfl 27 (xRow xZ0 0 0) HRR.out (by kernel_rfl) rfl (by kernel_rfl) ?_))
    have hend := HEND.out
    generalize w3.setRow R (xRow xZ0 0 0) = w8 at hend ⊢
    obtain ⟨⟨u0, u1, u2, u3, u4, u5⟩, u6, u7, u8, u9, u10⟩ := setRow_cellsR hend.2
    exact bodyPost_ret (v := .tuple #[statV xZ0 0 0, .bool false]) (by simp [results, Tryz.results17, go_sem, statV, u0, u1, u2, u3, u4, u5, u6, u7, u8, u9, u10]) rfl ⟨rfl, hend.1⟩
  | true =>
    have hnd := HD.out rfl
    have hlv := HLV.out (by omega)
    subst hlv
    have d6 : (d == 6) = false := by rw [beq_eq_false_iff_ne]; omega
    have hnq : ∀ W : World, (binOp .neq 102 Value.nilFunc Value.nilFunc).run Tryz.prog W = .ok (.bool false) W := fun W => by kernel_rfl
    clear hnd
    go_upto_region 23 with (first | (refine wpList_load_mid rfl 56 (.tmp 19) rfl E 0 rfl [.int .i64 d, .int .i64 er, .string ⟨#[]⟩, .slice p n c, .int .i64 0, .int .u32 0, .int .u8 0, .int .u64 0, .int .u64 0, .int .u64 0, .int .u64 0, .int .u64 0, .int .u64 0, .int .u64 0, .int .u64 0, .int .u64 0, .int .u64 0, .complex .f64 0 0] _ HRG.out Tryz.underlying56 rfl (by kernel_rfl) ?_) | (refine wpList_store_rowTo rfl 56 (.tmp 9) (.tmp 20) rfl rfl w2.heap.size #[.int .i64 d, .int .i64 er, .string ⟨#[]⟩, .slice p n c, .int .i64 0, .int .u32 0, .int .u8 0, .int .u64 0, .int .u64 0, .int .u64 0, .int .u64 0, .int .u64 0, .int .u64 0, .int .u64 0, .int .u64 0, .int .u64 0, .int .u64 0, .complex .f64 0 0] rfl rfl 56 #[.int .i64 0, .int .i64 0, .string ⟨#[]⟩, .slice none 0 0, .int .i64 0, .int .u32 0, .int .u8 0, .int .u64 0, .int .u64 0, .int .u64 0, .int .u64 0, .int .u64 0, .int .u64 0, .int .u64 0, .int .u64 0, .int .u64 0, .int .u64 0, .complex .f64 0 0] (heap_alloc_last w2 _) (by kernel_rfl) rfl (by kernel_rfl) ?_; rw [World.setRow_alloc_new]))
    have hrr : (w2.alloc (.cells #[.int .i64 d, .int .i64 er, .string ⟨#[]⟩, .slice p n c, .int .i64 0, .int .u32 0, .int .u8 0, .int .u64 0, .int .u64 0, .int .u64 0, .int .u64 0, .int .u64 0, .int .u64 0, .int .u64 0, .int .u64 0, .int .u64 0, .int .u64 0, .complex .f64 0 0] 56)).heap[R]? = some (.cells (xRow xZ0 0 0) 27 (0, 0)) := (Below.heap_alloc w2 _ R (Array.getElem?_eq_some_iff.1 HX2.out.1).1).trans HX2.out.1
    have hlw : Later w (w2.alloc (.cells #[.int .i64 d, .int .i64 er, .string ⟨#[]⟩, .slice p n c, .int .i64 0, .int .u32 0, .int .u8 0, .int .u64 0, .int .u64 0, .int .u64 0, .int .u64 0, .int .u64 0, .int .u64 0, .int .u64 0, .int .u64 0, .int .u64 0, .int .u64 0, .complex .f64 0 0] 56)) := HX2.out.2.2.1.alloc _
    obtain ⟨w3, hw3⟩ : ∃ w3, w2.alloc (.cells #[.int .i64 d, .int .i64 er, .string ⟨#[]⟩, .slice p n c, .int .i64 0, .int .u32 0, .int .u8 0, .int .u64 0, .int .u64 0, .int .u64 0, .int .u64 0, .int .u64 0, .int .u64 0, .int .u64 0, .int .u64 0, .int .u64 0, .int .u64 0, .complex .f64 0 0] 56) = w3 := ⟨_, rfl⟩
    rw [hw3] at hrr hlw
    rw [hw3]
    have HRR := Lib.hid hrr
    have HEND := Lib.hid (EndR.mk (x := xZ0) (a := 0) (b := 0) hlw HX2.out.2.2.2 hrr)
    clear hw3 hrr hlw hlook
    go_wp2_with (first | (refine wpList_store_rowTo rfl 27 (.tmp 4) (.tmp 80) rfl rfl R (xRow xZ0 0 0) rfl rfl 27 (xRow xZ0 0 0) HRR.out (by kernel_rfl) rfl (by kernel_rfl) ?_))
    have hend := HEND.out
    generalize w3.setRow R (xRow xZ0 0 0) = w8 at hend ⊢
    obtain ⟨⟨u0, u1, u2, u3, u4, u5⟩, u6, u7, u8, u9, u10⟩ := setRow_cellsR hend.2
    exact bodyPost_ret (v := .tuple #[statV xZ0 0 0, .bool false]) (by simp [results, Tryz.results17, go_sem, statV, u0, u1, u2, u3, u4, u5, u6, u7, u8, u9, u10]) rfl ⟨rfl, hend.1⟩
end Go.Proofs.YthohoendjipleaaGreatDoor
namespace Go.Proofs.YthohoendjipleaaGreatDoor
open Go.RowKit
set_option linter.unusedSimpArgs false
set_option linter.unusedVariables false

set_option maxRecDepth 100000 in
set_option maxHeartbeats 8000000 in
theorem statNext_bad (x0 : Nat → Int) {a0 b0 : Nat} {r : Bool} (hr : LdOK a0 b0 r) (d er : Int) (p : Option Addr) (n c : Nat) (hd : r = true → ¬ (1 ≤ d ∧ d ≤ 6)) (w : World) :
    Calls Tryz.prog 18 #[statV x0 a0 b0, .int .i64 d, .agg (ansP er p n c)] w fun e w' => e = .returned (.tuple #[statV xZ0 0 0, .bool false]) ∧ Later w w' := by
  have HA := Lib.hid (fun E cap W hE => After_bad x0 hr d er p n c hd E cap W hE)
  clear hr hd
  unfold statV ansP
  go_enter Tryz.func18, Tryz.ntmps18
  go_upto_region 1 with fail
  obtain ⟨W, hW⟩ : ∃ W, ((w.alloc (.cells #[.int .u64 (x0 0), .int .u64 (x0 1), .int .u64 (x0 2), .int .u64 (x0 3), .int .u64 (x0 4), .int .u64 (x0 5), .int .u64 (x0 6), .int .u64 (x0 7), .int .u64 (x0 8), .int .u64 (x0 9), .complex .f64 a0 b0] 27)).alloc (.cells #[.int .i64 er, .string ⟨#[]⟩, .slice p n c, .int .i64 0, .int .u32 0, .int .u8 0, .int .u64 0, .int .u64 0, .int .u64 0, .int .u64 0, .int .u64 0, .int .u64 0, .int .u64 0, .int .u64 0, .int .u64 0, .int .u64 0, .complex .f64 0 0] 38)).alloc (.cells #[.int .u64 0, .int .u64 0, .int .u64 0, .int .u64 0, .int .u64 0, .int .u64 0, .int .u64 0, .int .u64 0, .int .u64 0, .int .u64 0, .complex .f64 0 0] 27) = W := ⟨_, rfl⟩
  have e1 : (w.alloc (.cells #[.int .u64 (x0 0), .int .u64 (x0 1), .int .u64 (x0 2), .int .u64 (x0 3), .int .u64 (x0 4), .int .u64 (x0 5), .int .u64 (x0 6), .int .u64 (x0 7), .int .u64 (x0 8), .int .u64 (x0 9), .complex .f64 a0 b0] 27)).heap.size = w.heap.size + 1 := by simp
  have e2 : ((w.alloc (.cells #[.int .u64 (x0 0), .int .u64 (x0 1), .int .u64 (x0 2), .int .u64 (x0 3), .int .u64 (x0 4), .int .u64 (x0 5), .int .u64 (x0 6), .int .u64 (x0 7), .int .u64 (x0 8), .int .u64 (x0 9), .complex .f64 a0 b0] 27)).alloc (.cells #[.int .i64 er, .string ⟨#[]⟩, .slice p n c, .int .i64 0, .int .u32 0, .int .u8 0, .int .u64 0, .int .u64 0, .int .u64 0, .int .u64 0, .int .u64 0, .int .u64 0, .int .u64 0, .int .u64 0, .int .u64 0, .int .u64 0, .complex .f64 0 0] 38)).heap.size = w.heap.size + 1 + 1 := by simp
  have hA : W.heap[w.heap.size + 1]? = some (.cells #[.int .i64 er, .string ⟨#[]⟩, .slice p n c, .int .i64 0, .int .u32 0, .int .u8 0, .int .u64 0, .int .u64 0, .int .u64 0, .int .u64 0, .int .u64 0, .int .u64 0, .int .u64 0, .int .u64 0, .int .u64 0, .int .u64 0, .complex .f64 0 0] 38 (0, 0)) := by
    have := heapB (w.alloc (.cells #[.int .u64 (x0 0), .int .u64 (x0 1), .int .u64 (x0 2), .int .u64 (x0 3), .int .u64 (x0 4), .int .u64 (x0 5), .int .u64 (x0 6), .int .u64 (x0 7), .int .u64 (x0 8), .int .u64 (x0 9), .complex .f64 a0 b0] 27)) (.cells #[.int .i64 er, .string ⟨#[]⟩, .slice p n c, .int .i64 0, .int .u32 0, .int .u8 0, .int .u64 0, .int .u64 0, .int .u64 0, .int .u64 0, .int .u64 0, .int .u64 0, .int .u64 0, .int .u64 0, .int .u64 0, .int .u64 0, .complex .f64 0 0] 38) (.cells #[.int .u64 0, .int .u64 0, .int .u64 0, .int .u64 0, .int .u64 0, .int .u64 0, .int .u64 0, .int .u64 0, .int .u64 0, .int .u64 0, .complex .f64 0 0] 27)
    rw [e1] at this; rw [← hW]; exact this
  have hR : W.heap[w.heap.size + 1 + 1]? = some (.cells #[.int .u64 0, .int .u64 0, .int .u64 0, .int .u64 0, .int .u64 0, .int .u64 0, .int .u64 0, .int .u64 0, .int .u64 0, .int .u64 0, .complex .f64 0 0] 27 (0, 0)) := by
    have := heapA (w.alloc (.cells #[.int .u64 (x0 0), .int .u64 (x0 1), .int .u64 (x0 2), .int .u64 (x0 3), .int .u64 (x0 4), .int .u64 (x0 5), .int .u64 (x0 6), .int .u64 (x0 7), .int .u64 (x0 8), .int .u64 (x0 9), .complex .f64 a0 b0] 27)) (.cells #[.int .i64 er, .string ⟨#[]⟩, .slice p n c, .int .i64 0, .int .u32 0, .int .u8 0, .int .u64 0, .int .u64 0, .int .u64 0, .int .u64 0, .int .u64 0, .int .u64 0, .int .u64 0, .int .u64 0, .int .u64 0, .int .u64 0, .complex .f64 0 0] 38) (.cells #[.int .u64 0, .int .u64 0, .int .u64 0, .int .u64 0, .int .u64 0, .int .u64 0, .int .u64 0, .int .u64 0, .int .u64 0, .int .u64 0, .complex .f64 0 0] 27)
    rw [e1] at this; rw [← hW]; exact this
  have hS : W.heap[w.heap.size]? = some (.cells #[.int .u64 (x0 0), .int .u64 (x0 1), .int .u64 (x0 2), .int .u64 (x0 3), .int .u64 (x0 4), .int .u64 (x0 5), .int .u64 (x0 6), .int .u64 (x0 7), .int .u64 (x0 8), .int .u64 (x0 9), .complex .f64 a0 b0] 27 (0, 0)) := by
    rw [← hW]; exact (Below.heap_alloc _ _ _ (by simp <;> omega)).trans (heapB w _ _)
  have k0 : W.cell? ⟨w.heap.size, 0, none⟩ = some (.int .u64 (x0 0)) := by simp [World.cell?, hS]
  have k1 : W.cell? ⟨w.heap.size, 1, none⟩ = some (.int .u64 (x0 1)) := by simp [World.cell?, hS]
  have k2 : W.cell? ⟨w.heap.size, 2, none⟩ = some (.int .u64 (x0 2)) := by simp [World.cell?, hS]
  have k3 : W.cell? ⟨w.heap.size, 3, none⟩ = some (.int .u64 (x0 3)) := by simp [World.cell?, hS]
  have k4 : W.cell? ⟨w.heap.size, 4, none⟩ = some (.int .u64 (x0 4)) := by simp [World.cell?, hS]
  have k5 : W.cell? ⟨w.heap.size, 5, none⟩ = some (.int .u64 (x0 5)) := by simp [World.cell?, hS]
  have k6 : W.cell? ⟨w.heap.size, 6, none⟩ = some (.int .u64 (x0 6)) := by simp [World.cell?, hS]
  have k7 : W.cell? ⟨w.heap.size, 7, none⟩ = some (.int .u64 (x0 7)) := by simp [World.cell?, hS]
  have k8 : W.cell? ⟨w.heap.size, 8, none⟩ = some (.int .u64 (x0 8)) := by simp [World.cell?, hS]
  have k9 : W.cell? ⟨w.heap.size, 9, none⟩ = some (.int .u64 (x0 9)) := by simp [World.cell?, hS]
  have k10 : W.cell? ⟨w.heap.size, 10, none⟩ = some (.complex .f64 a0 b0) := by simp [World.cell?, hS]
  have hlW : Later w W := by rw [← hW]; exact (((Later.refl w).alloc _).alloc _).alloc _
  have hWs : W.heap.size = w.heap.size + 1 + 1 + 1 := by rw [← hW]; simp
  try rw [hW]
  clear hW e1 e2
  have HRG := Lib.hid (rangeAt_block (w := W) (cs := [.int .i64 er, .string ⟨#[]⟩, .slice p n c, .int .i64 0, .int .u32 0, .int .u8 0, .int .u64 0, .int .u64 0, .int .u64 0, .int .u64 0, .int .u64 0, .int .u64 0, .int .u64 0, .int .u64 0, .int .u64 0, .int .u64 0, .complex .f64 0 0]) hA)
  have HWS := Lib.hid hWs
  have HR := Lib.hid hR
  clear hA hWs hR hS
  go_wp2_with (first | (refine wpList_load_mid rfl 38 (.tmp 5) rfl (w.heap.size + 1) 0 rfl [.int .i64 er, .string ⟨#[]⟩, .slice p n c, .int .i64 0, .int .u32 0, .int .u8 0, .int .u64 0, .int .u64 0, .int .u64 0, .int .u64 0, .int .u64 0, .int .u64 0, .int .u64 0, .int .u64 0, .int .u64 0, .int .u64 0, .complex .f64 0 0] _ HRG.out Tryz.underlying38 rfl (by kernel_rfl) ?_))
  refine (HA.out W.heap.size 1 _ (MapKept.heap_alloc W _).1).mono ?_
  rintro e w2 ⟨rfl, hb2⟩
  have hl2 := ((Later.refl W).alloc (.cells #[.int .i64 d, .int .i64 er, .string ⟨#[]⟩, .slice p n c, .int .i64 0, .int .u32 0, .int .u8 0, .int .u64 0, .int .u64 0, .int .u64 0, .int .u64 0, .int .u64 0, .int .u64 0, .int .u64 0, .int .u64 0, .int .u64 0, .int .u64 0, .complex .f64 0 0] 56)).trans hb2
  have hR2 : w2.heap[w.heap.size + 1 + 1]? = some (.cells (xRow xZ0 0 0) 27 (0, 0)) := (Below.block hl2 _ (by have := HWS.out; omega)).trans HR.out
  have HRR := Lib.hid hR2
  have HEND := Lib.hid (EndR.mk (x := xZ0) (a := 0) (b := 0) (hlW.trans hl2) (show w.heap.size ≤ w.heap.size + 1 + 1 by omega) hR2)
  clear hb2 hl2 hR2 HA k0 k1 k2 k3 k4 k5 k6 k7 k8 k9 k10
  unfold statV
  go_wp2_with (first | (refine wpList_store_rowTo rfl 27 (.tmp 6) (.tmp 14) rfl rfl (w.heap.size + 1 + 1) (xRow xZ0 0 0) rfl rfl 27 (xRow xZ0 0 0) HRR.out (by kernel_rfl) rfl (by kernel_rfl) ?_))
  have hend := HEND.out
  generalize w2.setRow (w.heap.size + 1 + 1) (xRow xZ0 0 0) = w8 at hend ⊢
  obtain ⟨⟨u0, u1, u2, u3, u4, u5⟩, u6, u7, u8, u9, u10⟩ := setRow_cellsR hend.2
  exact bodyPost_ret (v := .tuple #[statV xZ0 0 0, .bool false]) (by simp [results, Tryz.results18, go_sem, statV, u0, u1, u2, u3, u4, u5, u6, u7, u8, u9, u10]) rfl ⟨rfl, hend.1⟩
end Go.Proofs.YthohoendjipleaaGreatDoor
namespace Go.Proofs.YthohoendjipleaaGreatDoor
open Go.RowKit Go.Sort Go.Lib
set_option linter.unusedSimpArgs false
set_option linter.unusedVariables false

/-- the program's and the reference's answers are one -/
theorem both_next (x : Nat → Int) (hx : okX x) {a b : Nat} {r : Bool} (hr : LdOK a b r) (d er : Int) (p : Option Addr) (n c : Nat) (hn : n ≤ 1000000) :
    ∃ (y : Nat → Int) (a' b' : Nat) (r2 : Bool), a' ≤ W2 ∧ b' ≤ W2 ∧
      (∀ w, Calls Tryz.prog 18 #[.agg #[.int .u64 (x 0), .int .u64 (x 1), .int .u64 (x 2), .int .u64 (x 3), .int .u64 (x 4), .int .u64 (x 5), .int .u64 (x 6), .int .u64 (x 7), .int .u64 (x 8), .int .u64 (x 9), .complex .f64 a b], .int .i64 d, .agg #[.int .i64 er, .string ⟨#[]⟩, .slice p n c, .int .i64 0, .int .u32 0, .int .u8 0, .int .u64 0, .int .u64 0, .int .u64 0, .int .u64 0, .int .u64 0, .int .u64 0, .int .u64 0, .int .u64 0, .int .u64 0, .int .u64 0, .complex .f64 0 0]] w fun e w' => e = .returned (.tuple #[.agg #[.int .u64 (y 0), .int .u64 (y 1), .int .u64 (y 2), .int .u64 (y 3), .int .u64 (y 4), .int .u64 (y 5), .int .u64 (y 6), .int .u64 (y 7), .int .u64 (y 8), .int .u64 (y 9), .complex .f64 a' b'], .bool r2]) ∧ Later w w') ∧
      (∀ w, Calls Tryz.prog 19 #[.agg #[.int .u64 (x 0), .int .u64 (x 1), .int .u64 (x 2), .int .u64 (x 3), .int .u64 (x 4), .int .u64 (x 5), .int .u64 (x 6), .int .u64 (x 7), .int .u64 (x 8), .int .u64 (x 9), .complex .f64 a b], .agg #[.int .i64 d, .int .i64 er, .string ⟨#[]⟩, .slice p n c, .int .i64 0, .int .u32 0, .int .u8 0, .int .u64 0, .int .u64 0, .int .u64 0, .int .u64 0, .int .u64 0, .int .u64 0, .int .u64 0, .int .u64 0, .int .u64 0, .int .u64 0, .complex .f64 0 0]] w fun e w' => e = .returned (.tuple #[.agg #[.int .u64 (y 0), .int .u64 (y 1), .int .u64 (y 2), .int .u64 (y 3), .int .u64 (y 4), .int .u64 (y 5), .int .u64 (y 6), .int .u64 (y 7), .int .u64 (y 8), .int .u64 (y 9), .complex .f64 a' b'], .bool r2]) ∧ Later w w') := by
  by_cases h : r = true ∧ 1 ≤ d ∧ d ≤ 6
  · obtain ⟨rfl, hd⟩ := h
    have hab : a ≤ W2 ∧ b ≤ W2 := by
      rcases hr with ⟨_, h1, h2⟩ | ⟨h, _⟩
      · exact ⟨h1, h2⟩
      · cases h
    exact ⟨_, _, _, true, nextR_le a d hab.1, nextI_le b d hab.2, fun w => statNextP_is x a b hx hab.1 hab.2 d er p n c hd hn w, fun w => refNext25_is x hx a b hab.1 hab.2 d er p n c hd hn w⟩
  · have hd : r = true → ¬ (1 ≤ d ∧ d ≤ 6) := fun hr hd => h ⟨hr, hd⟩
    exact ⟨xZ0, 0, 0, false, by unfold W2; omega, by unfold W2; omega, fun w => statNext_bad x hr d er p n c hd w, fun w => refNext25_bad x hx hr d er p n c hd w⟩
set_option maxRecDepth 100000 in
set_option maxHeartbeats 16000000 in
theorem StatNexts_is (x : Nat → Int) (hx : okX x) {a b : Nat} {r : Bool} (hr : LdOK a b r) (d er : Int) (p : Option Addr) (n c : Nat) (hn : n ≤ 1000000) (w : World) (hE : Env w) :
    Calls Tryz.prog 8 #[.agg #[.int .u64 (x 0), .int .u64 (x 1), .int .u64 (x 2), .int .u64 (x 3), .int .u64 (x 4), .int .u64 (x 5), .int .u64 (x 6), .int .u64 (x 7), .int .u64 (x 8), .int .u64 (x 9), .complex .f64 a b], .int .i64 d, .agg #[.int .i64 er, .string ⟨#[]⟩, .slice p n c, .int .i64 0, .int .u32 0, .int .u8 0, .int .u64 0, .int .u64 0, .int .u64 0, .int .u64 0, .int .u64 0, .int .u64 0, .int .u64 0, .int .u64 0, .int .u64 0, .int .u64 0, .complex .f64 0 0]] w fun e w' => e = .returned (.bool true) ∧ Later w w' := by
  obtain ⟨y, a', b', r2, ha, hb, hp, hq⟩ := both_next x hx hr d er p n c hn
  have HP := Lib.hid hp
  have HQ := Lib.hid hq
  have HIS := Lib.hid (fun W => statIs_both (x 0) (x 1) (x 2) (x 3) (x 4) (x 5) (x 6) (x 7) (x 8) (x 9) hr.both W)
  have HRIS := Lib.hid (fun W => refIs25_is x hr W)
  have HSM := Lib.hid (fun W => Same_is y a' b' ha hb W)
  have HE := Lib.hid hE
  unfold statV at HSM
  clear hx hr hn ha hb hp hq hE
  go_enter Tryz.func8, Tryz.ntmps8
  go_upto_region 1 with fail
  have s1 : (w.alloc (.cells (xRow x a b) 27)).heap.size = w.heap.size + 1 := by simp
  have h1 := (MapKept.heap_alloc w (.cells (xRow x a b) 27)).1
  have h2 := (MapKept.heap_alloc (w.alloc (.cells (xRow x a b) 27)) (.cells #[.int .i64 er, .string ⟨#[]⟩, .slice p n c, .int .i64 0, .int .u32 0, .int .u8 0, .int .u64 0, .int .u64 0, .int .u64 0, .int .u64 0, .int .u64 0, .int .u64 0, .int .u64 0, .int .u64 0, .int .u64 0, .int .u64 0, .complex .f64 0 0] 38)).1
  rw [s1] at h2
  have h1' := (Below.heap_alloc (w.alloc (.cells (xRow x a b) 27)) (.cells #[.int .i64 er, .string ⟨#[]⟩, .slice p n c, .int .i64 0, .int .u32 0, .int .u8 0, .int .u64 0, .int .u64 0, .int .u64 0, .int .u64 0, .int .u64 0, .int .u64 0, .int .u64 0, .int .u64 0, .int .u64 0, .int .u64 0, .complex .f64 0 0] 38) w.heap.size (by omega)).trans h1
  have hl0 : Later w ((w.alloc (.cells (xRow x a b) 27)).alloc (.cells #[.int .i64 er, .string ⟨#[]⟩, .slice p n c, .int .i64 0, .int .u32 0, .int .u8 0, .int .u64 0, .int .u64 0, .int .u64 0, .int .u64 0, .int .u64 0, .int .u64 0, .int .u64 0, .int .u64 0, .int .u64 0, .int .u64 0, .complex .f64 0 0] 38)) := ((Later.refl w).alloc _).alloc _
  obtain ⟨W, hW⟩ : ∃ W, (w.alloc (.cells #[.int .u64 (x 0), .int .u64 (x 1), .int .u64 (x 2), .int .u64 (x 3), .int .u64 (x 4), .int .u64 (x 5), .int .u64 (x 6), .int .u64 (x 7), .int .u64 (x 8), .int .u64 (x 9), .complex .f64 a b] 27)).alloc (.cells #[.int .i64 er, .string ⟨#[]⟩, .slice p n c, .int .i64 0, .int .u32 0, .int .u8 0, .int .u64 0, .int .u64 0, .int .u64 0, .int .u64 0, .int .u64 0, .int .u64 0, .int .u64 0, .int .u64 0, .int .u64 0, .int .u64 0, .complex .f64 0 0] 38) = W := ⟨_, rfl⟩
  have hW2 : (w.alloc (.cells (xRow x a b) 27)).alloc (.cells #[.int .i64 er, .string ⟨#[]⟩, .slice p n c, .int .i64 0, .int .u32 0, .int .u8 0, .int .u64 0, .int .u64 0, .int .u64 0, .int .u64 0, .int .u64 0, .int .u64 0, .int .u64 0, .int .u64 0, .int .u64 0, .int .u64 0, .complex .f64 0 0] 38) = W := hW
  obtain ⟨A, hA⟩ : ∃ A, w.heap.size + 1 = A := ⟨_, rfl⟩
  obtain ⟨S, hS⟩ : ∃ S, w.heap.size = S := ⟨_, rfl⟩
  rw [hW2] at h1' h2 hl0
  rw [hA] at h2
  rw [hS] at h1'
  rw [hW]
  try rw [hA]
  try rw [hS]
  have HB := Lib.hid (And.intro h1' (And.intro h2 hl0))
  have HRS := Lib.hid (show W.rangeAt S 0 [.int .u64 (x 0), .int .u64 (x 1), .int .u64 (x 2), .int .u64 (x 3), .int .u64 (x 4), .int .u64 (x 5), .int .u64 (x 6), .int .u64 (x 7), .int .u64 (x 8), .int .u64 (x 9), .complex .f64 a b] from rangeAt_block h1')
  have HRA := Lib.hid (show W.rangeAt A 0 [.int .i64 er, .string ⟨#[]⟩, .slice p n c, .int .i64 0, .int .u32 0, .int .u8 0, .int .u64 0, .int .u64 0, .int .u64 0, .int .u64 0, .int .u64 0, .int .u64 0, .int .u64 0, .int .u64 0, .int .u64 0, .int .u64 0, .complex .f64 0 0] from rangeAt_block h2)
  clear s1 h1 h2 h1' hl0 hW hW2 hA hS
  go_wp2_with (first | (refine wpList_load_mid rfl 27 (.tmp 3) rfl S 0 rfl [.int .u64 (x 0), .int .u64 (x 1), .int .u64 (x 2), .int .u64 (x 3), .int .u64 (x 4), .int .u64 (x 5), .int .u64 (x 6), .int .u64 (x 7), .int .u64 (x 8), .int .u64 (x 9), .complex .f64 a b] _ HRS.out Tryz.underlying27 rfl (by kernel_rfl) ?_) | (refine wpList_load_mid rfl 38 (.tmp 5) rfl A 0 rfl [.int .i64 er, .string ⟨#[]⟩, .slice p n c, .int .i64 0, .int .u32 0, .int .u8 0, .int .u64 0, .int .u64 0, .int .u64 0, .int .u64 0, .int .u64 0, .int .u64 0, .int .u64 0, .int .u64 0, .int .u64 0, .int .u64 0, .complex .f64 0 0] _ HRA.out Tryz.underlying38 rfl (by kernel_rfl) ?_))
  refine (HP.out _).mono ?_
  rintro e w1 ⟨rfl, hl1⟩
  have HB1 := Lib.hid (And.intro ((Below.block hl1 S (Array.getElem?_eq_some_iff.1 HB.out.1).1).trans HB.out.1) (And.intro ((Below.block hl1 A (Array.getElem?_eq_some_iff.1 HB.out.2.1).1).trans HB.out.2.1) (HB.out.2.2.trans hl1)))
  clear hl1 HP HRS HRA HB
  go_upto_region 2 with (first | (refine wpList_store_rowTo rfl 27 (.tmp 7) (.tmp 16) rfl rfl w1.heap.size (xRow y a' b') rfl rfl 27 (xRow xZ0 0 0) (heap_alloc_last w1 _) (by kernel_rfl) rfl (by kernel_rfl) ?_; rw [World.setRow_alloc_new]))
  have g1 := (Below.heap_alloc w1 (.cells (xRow y a' b') 27) S (Array.getElem?_eq_some_iff.1 HB1.out.1).1).trans HB1.out.1
  have g2 := (Below.heap_alloc w1 (.cells (xRow y a' b') 27) A (Array.getElem?_eq_some_iff.1 HB1.out.2.1).1).trans HB1.out.2.1
  have g3 := (MapKept.heap_alloc w1 (.cells (xRow y a' b') 27)).1
  have g4 := HB1.out.2.2.alloc (.cells (xRow y a' b') 27)
  obtain ⟨W5, hW5⟩ : ∃ W5, w1.alloc (.cells (xRow y a' b') 27) = W5 := ⟨_, rfl⟩
  obtain ⟨B, hB⟩ : ∃ B, w1.heap.size = B := ⟨_, rfl⟩
  rw [hW5] at g1 g2 g3 g4
  rw [hB] at g3
  try rw [hW5]
  try rw [hB]
  have HB2 := Lib.hid (And.intro g1 (And.intro g3 g4))
  have HRS := Lib.hid (show W5.rangeAt S 0 [.int .u64 (x 0), .int .u64 (x 1), .int .u64 (x 2), .int .u64 (x 3), .int .u64 (x 4), .int .u64 (x 5), .int .u64 (x 6), .int .u64 (x 7), .int .u64 (x 8), .int .u64 (x 9), .complex .f64 a b] from rangeAt_block g1)
  have HRA := Lib.hid (show W5.rangeAt A 0 [.int .i64 er, .string ⟨#[]⟩, .slice p n c, .int .i64 0, .int .u32 0, .int .u8 0, .int .u64 0, .int .u64 0, .int .u64 0, .int .u64 0, .int .u64 0, .int .u64 0, .int .u64 0, .int .u64 0, .int .u64 0, .int .u64 0, .complex .f64 0 0] from rangeAt_block g2)
  clear g1 g2 g3 g4 hW5 hB HB1
  go_wp2_with (first | (refine wpList_load_mid rfl 27 (.tmp 3) rfl S 0 rfl [.int .u64 (x 0), .int .u64 (x 1), .int .u64 (x 2), .int .u64 (x 3), .int .u64 (x 4), .int .u64 (x 5), .int .u64 (x 6), .int .u64 (x 7), .int .u64 (x 8), .int .u64 (x 9), .complex .f64 a b] _ HRS.out Tryz.underlying27 rfl (by kernel_rfl) ?_) | (refine wpList_load_mid rfl 38 (.tmp 5) rfl A 0 rfl [.int .i64 er, .string ⟨#[]⟩, .slice p n c, .int .i64 0, .int .u32 0, .int .u8 0, .int .u64 0, .int .u64 0, .int .u64 0, .int .u64 0, .int .u64 0, .int .u64 0, .int .u64 0, .int .u64 0, .int .u64 0, .int .u64 0, .complex .f64 0 0] _ HRA.out Tryz.underlying38 rfl (by kernel_rfl) ?_))
  refine (HQ.out _).mono ?_
  rintro e w2 ⟨rfl, hl2⟩
  have HB3 := Lib.hid (And.intro ((Below.block hl2 S (Array.getElem?_eq_some_iff.1 HB2.out.1).1).trans HB2.out.1) (And.intro ((Below.block hl2 B (Array.getElem?_eq_some_iff.1 HB2.out.2.1).1).trans HB2.out.2.1) (HB2.out.2.2.trans hl2)))
  clear hl2 HQ HRS HRA HB2
  go_upto_region 3 with (first | (refine wpList_store_rowTo rfl 27 (.tmp 9) (.tmp 24) rfl rfl w2.heap.size (xRow y a' b') rfl rfl 27 (xRow xZ0 0 0) (heap_alloc_last w2 _) (by kernel_rfl) rfl (by kernel_rfl) ?_; rw [World.setRow_alloc_new]))
  have g1 := (Below.heap_alloc w2 (.cells (xRow y a' b') 27) S (Array.getElem?_eq_some_iff.1 HB3.out.1).1).trans HB3.out.1
  have g2 := (Below.heap_alloc w2 (.cells (xRow y a' b') 27) B (Array.getElem?_eq_some_iff.1 HB3.out.2.1).1).trans HB3.out.2.1
  have g3 := (MapKept.heap_alloc w2 (.cells (xRow y a' b') 27)).1
  have g4 := HB3.out.2.2.alloc (.cells (xRow y a' b') 27)
  obtain ⟨W6, hW6⟩ : ∃ W6, w2.alloc (.cells (xRow y a' b') 27) = W6 := ⟨_, rfl⟩
  obtain ⟨C, hC⟩ : ∃ C, w2.heap.size = C := ⟨_, rfl⟩
  rw [hW6] at g1 g2 g3 g4
  rw [hC] at g3
  try rw [hW6]
  try rw [hC]
  obtain ⟨⟨s0, s1, s2, s3, s4, s5⟩, s6, s7, s8, s9, s10⟩ := setRow_cellsR g1
  obtain ⟨⟨t0, t1, t2, t3, t4, t5⟩, t6, t7, t8, t9, t10⟩ := setRow_cellsR g2
  obtain ⟨⟨u0, u1, u2, u3, u4, u5⟩, u6, u7, u8, u9, u10⟩ := setRow_cellsR g3
  have sk0 := cell_regrown s0
  have sk1 := cell_regrown s1
  have sk2 := cell_regrown s2
  have sk3 := cell_regrown s3
  have sk4 := cell_regrown s4
  have sk5 := cell_regrown s5
  have sk6 := cell_regrown s6
  have sk7 := cell_regrown s7
  have sk8 := cell_regrown s8
  have sk9 := cell_regrown s9
  have sk10 := cell_regrown s10
  have tk0 := cell_regrown t0
  have tk1 := cell_regrown t1
  have tk2 := cell_regrown t2
  have tk3 := cell_regrown t3
  have tk4 := cell_regrown t4
  have tk5 := cell_regrown t5
  have tk6 := cell_regrown t6
  have tk7 := cell_regrown t7
  have tk8 := cell_regrown t8
  have tk9 := cell_regrown t9
  have tk10 := cell_regrown t10
  have uk0 := cell_regrown u0
  have uk1 := cell_regrown u1
  have uk2 := cell_regrown u2
  have uk3 := cell_regrown u3
  have uk4 := cell_regrown u4
  have uk5 := cell_regrown u5
  have uk6 := cell_regrown u6
  have uk7 := cell_regrown u7
  have uk8 := cell_regrown u8
  have uk9 := cell_regrown u9
  have uk10 := cell_regrown u10
  have hEW := HE.out.later g4
  have HL6 := Lib.hid g4
  have c1 := fun dd os => quiet_later (HIS.out (grow (redrawn W6 dd) os))
  have c2 := fun dd os => quiet_later (HRIS.out (grow (redrawn W6 dd) os))
  have c3 := fun dd os => quiet_later (HSM.out (grow (redrawn W6 dd) os))
  have c4 := fun dd os => quiet_later (awake_is (grow (redrawn W6 dd) os) (hEW.later (below_regrown W6 dd os)))
  clear g1 g2 g3 g4 hW6 hC HB3 hEW HIS HRIS HSM s0 s1 s2 s3 s4 s5 s6 s7 s8 s9 s10 t0 t1 t2 t3 t4 t5 t6 t7 t8 t9 t10 u0 u1 u2 u3 u4 u5 u6 u7 u8 u9 u10
  refine wp_region_quiet_below mixed (by kernel_rfl) ?_
  repeat ((with_reducible refine wpQuiet_step (fun K hK => ?_)); go_simp; first | ((with_reducible refine hK _ ?_); clear hK K) | (apply Exists.intro; refine ⟨fun _ => ?_, hK _ ?_⟩; (first | (with_reducible exact c1 _ _) | (with_reducible exact c2 _ _) | (with_reducible exact c3 _ _) | (with_reducible exact c4 _ _)); clear hK K))
  with_reducible refine wpQuiet_nil ?_
  intro w7 hw7
  have HL7 := Lib.hid (show Later w w7 from HL6.out.trans (by obtain ⟨q, rfl⟩ := hw7; exact below_regrown W6 q.d q.os))
  clear hw7 c1 c2 c3 c4 sk0 sk1 sk2 sk3 sk4 sk5 sk6 sk7 sk8 sk9 sk10 tk0 tk1 tk2 tk3 tk4 tk5 tk6 tk7 tk8 tk9 tk10 uk0 uk1 uk2 uk3 uk4 uk5 uk6 uk7 uk8 uk9 uk10
  go_wp2_with fail
  go_ret
  exact ⟨rfl, HL7.out⟩
end Go.Proofs.YthohoendjipleaaGreatDoor
