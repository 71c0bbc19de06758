/-
 Texts of this proof, put together (BrR): each part's first words say what it holds. Conditions: as each part says.
-/
import Derived.Test.YtkbedajbbakihaaGreatDoorYu
/-
 The reference's bare, walked. Conditions: the deed is one of the ten.
-/
namespace Go.Proofs.YtkbedajbbakihaaGreatDoor
open Go.RowKit
set_option linter.unusedSimpArgs false
set_option linter.unusedVariables false
theorem bare_1 (r : Req) (h : r.deed = 1) : bare r = { req0 with deed := 1, ht := r.ht, hg := r.hg, hr := r.hr, key := r.key } := by simp [bare, deedN, h, fldsN, setF]
set_option maxRecDepth 100000 in
set_option maxHeartbeats 8000000 in
theorem refBare_1 (r : Req) (h : r.deed = 1) (w : World) : Calls Tryz.prog 62 #[reqV r] w fun e w' => e = .returned (reqV (bare r)) ∧ Later w w' := by
 rw [bare_1 r h]
 obtain ⟨d, ht, hg, hrr, K, V, O, lim, ten, qk, qb, rts⟩ := r
 dsimp only at h
 subst h
 unfold reqV
 simp only [reqA, strV, req0]
 have HLL := Lib.hid (fun o1 o2 o3 => (((Later.refl w).alloc o1).alloc o2).alloc o3)
 go_enter Tryz.func62, Tryz.ntmps62
 go_wp2_with fail
 refine bodyPost_ret ?_ rfl ⟨rfl, HLL.out _ _ _⟩
 simp [results, Tryz.results62, go_sem]
theorem bare_2 (r : Req) (h : r.deed = 2) : bare r = { req0 with deed := 2, ht := r.ht, hg := r.hg, hr := r.hr, key := r.key, val := r.val } := by simp [bare, deedN, h, fldsN, setF]
set_option maxRecDepth 100000 in
set_option maxHeartbeats 8000000 in
theorem refBare_2 (r : Req) (h : r.deed = 2) (w : World) : Calls Tryz.prog 62 #[reqV r] w fun e w' => e = .returned (reqV (bare r)) ∧ Later w w' := by
 rw [bare_2 r h]
 obtain ⟨d, ht, hg, hrr, K, V, O, lim, ten, qk, qb, rts⟩ := r
 dsimp only at h
 subst h
 unfold reqV
 simp only [reqA, strV, req0]
 have HLL := Lib.hid (fun o1 o2 o3 => (((Later.refl w).alloc o1).alloc o2).alloc o3)
 go_enter Tryz.func62, Tryz.ntmps62
 go_wp2_with fail
 refine bodyPost_ret ?_ rfl ⟨rfl, HLL.out _ _ _⟩
 simp [results, Tryz.results62, go_sem]
theorem bare_3 (r : Req) (h : r.deed = 3) : bare r = { req0 with deed := 3, ht := r.ht, hg := r.hg, hr := r.hr, key := r.key } := by simp [bare, deedN, h, fldsN, setF]
set_option maxRecDepth 100000 in
set_option maxHeartbeats 8000000 in
theorem refBare_3 (r : Req) (h : r.deed = 3) (w : World) : Calls Tryz.prog 62 #[reqV r] w fun e w' => e = .returned (reqV (bare r)) ∧ Later w w' := by
 rw [bare_3 r h]
 obtain ⟨d, ht, hg, hrr, K, V, O, lim, ten, qk, qb, rts⟩ := r
 dsimp only at h
 subst h
 unfold reqV
 simp only [reqA, strV, req0]
 have HLL := Lib.hid (fun o1 o2 o3 => (((Later.refl w).alloc o1).alloc o2).alloc o3)
 go_enter Tryz.func62, Tryz.ntmps62
 go_wp2_with fail
 refine bodyPost_ret ?_ rfl ⟨rfl, HLL.out _ _ _⟩
 simp [results, Tryz.results62, go_sem]
theorem bare_4 (r : Req) (h : r.deed = 4) : bare r = { req0 with deed := 4, ht := r.ht, hg := r.hg, hr := r.hr, key := r.key, val := r.val, old := r.old } := by simp [bare, deedN, h, fldsN, setF]
set_option maxRecDepth 100000 in
set_option maxHeartbeats 8000000 in
theorem refBare_4 (r : Req) (h : r.deed = 4) (w : World) : Calls Tryz.prog 62 #[reqV r] w fun e w' => e = .returned (reqV (bare r)) ∧ Later w w' := by
 rw [bare_4 r h]
 obtain ⟨d, ht, hg, hrr, K, V, O, lim, ten, qk, qb, rts⟩ := r
 dsimp only at h
 subst h
 unfold reqV
 simp only [reqA, strV, req0]
 have HLL := Lib.hid (fun o1 o2 o3 => (((Later.refl w).alloc o1).alloc o2).alloc o3)
 go_enter Tryz.func62, Tryz.ntmps62
 go_wp2_with fail
 refine bodyPost_ret ?_ rfl ⟨rfl, HLL.out _ _ _⟩
 simp [results, Tryz.results62, go_sem]
theorem bare_5 (r : Req) (h : r.deed = 5) : bare r = { req0 with deed := 5, ht := r.ht, hg := r.hg, hr := r.hr, key := r.key, lim := r.lim } := by simp [bare, deedN, h, fldsN, setF]
set_option maxRecDepth 100000 in
set_option maxHeartbeats 8000000 in
theorem refBare_5 (r : Req) (h : r.deed = 5) (w : World) : Calls Tryz.prog 62 #[reqV r] w fun e w' => e = .returned (reqV (bare r)) ∧ Later w w' := by
 rw [bare_5 r h]
 obtain ⟨d, ht, hg, hrr, K, V, O, lim, ten, qk, qb, rts⟩ := r
 dsimp only at h
 subst h
 unfold reqV
 simp only [reqA, strV, req0]
 have HLL := Lib.hid (fun o1 o2 o3 => (((Later.refl w).alloc o1).alloc o2).alloc o3)
 go_enter Tryz.func62, Tryz.ntmps62
 go_wp2_with fail
 refine bodyPost_ret ?_ rfl ⟨rfl, HLL.out _ _ _⟩
 simp [results, Tryz.results62, go_sem]
theorem bare_6 (r : Req) (h : r.deed = 6) : bare r = { req0 with deed := 6, ht := r.ht, hg := r.hg, hr := r.hr } := by simp [bare, deedN, h, fldsN, setF]
set_option maxRecDepth 100000 in
set_option maxHeartbeats 8000000 in
theorem refBare_6 (r : Req) (h : r.deed = 6) (w : World) : Calls Tryz.prog 62 #[reqV r] w fun e w' => e = .returned (reqV (bare r)) ∧ Later w w' := by
 rw [bare_6 r h]
 obtain ⟨d, ht, hg, hrr, K, V, O, lim, ten, qk, qb, rts⟩ := r
 dsimp only at h
 subst h
 unfold reqV
 simp only [reqA, strV, req0]
 have HLL := Lib.hid (fun o1 o2 o3 => (((Later.refl w).alloc o1).alloc o2).alloc o3)
 go_enter Tryz.func62, Tryz.ntmps62
 go_wp2_with fail
 refine bodyPost_ret ?_ rfl ⟨rfl, HLL.out _ _ _⟩
 simp [results, Tryz.results62, go_sem]
theorem bare_7 (r : Req) (h : r.deed = 7) : bare r = { req0 with deed := 7, ten := r.ten, qk := r.qk, qb := r.qb } := by simp [bare, deedN, h, fldsN, setF]
set_option maxRecDepth 100000 in
set_option maxHeartbeats 8000000 in
theorem refBare_7 (r : Req) (h : r.deed = 7) (w : World) : Calls Tryz.prog 62 #[reqV r] w fun e w' => e = .returned (reqV (bare r)) ∧ Later w w' := by
 rw [bare_7 r h]
 obtain ⟨d, ht, hg, hrr, K, V, O, lim, ten, qk, qb, rts⟩ := r
 dsimp only at h
 subst h
 unfold reqV
 simp only [reqA, strV, req0]
 have HLL := Lib.hid (fun o1 o2 o3 => (((Later.refl w).alloc o1).alloc o2).alloc o3)
 go_enter Tryz.func62, Tryz.ntmps62
 go_wp2_with fail
 refine bodyPost_ret ?_ rfl ⟨rfl, HLL.out _ _ _⟩
 simp [results, Tryz.results62, go_sem]
theorem bare_8 (r : Req) (h : r.deed = 8) : bare r = { req0 with deed := 8, ten := r.ten } := by simp [bare, deedN, h, fldsN, setF]
set_option maxRecDepth 100000 in
set_option maxHeartbeats 8000000 in
theorem refBare_8 (r : Req) (h : r.deed = 8) (w : World) : Calls Tryz.prog 62 #[reqV r] w fun e w' => e = .returned (reqV (bare r)) ∧ Later w w' := by
 rw [bare_8 r h]
 obtain ⟨d, ht, hg, hrr, K, V, O, lim, ten, qk, qb, rts⟩ := r
 dsimp only at h
 subst h
 unfold reqV
 simp only [reqA, strV, req0]
 have HLL := Lib.hid (fun o1 o2 o3 => (((Later.refl w).alloc o1).alloc o2).alloc o3)
 go_enter Tryz.func62, Tryz.ntmps62
 go_wp2_with fail
 refine bodyPost_ret ?_ rfl ⟨rfl, HLL.out _ _ _⟩
 simp [results, Tryz.results62, go_sem]
theorem bare_9 (r : Req) (h : r.deed = 9) : bare r = { req0 with deed := 9, ten := r.ten, rts := r.rts } := by simp [bare, deedN, h, fldsN, setF]
set_option maxRecDepth 100000 in
set_option maxHeartbeats 8000000 in
theorem refBare_9 (r : Req) (h : r.deed = 9) (w : World) : Calls Tryz.prog 62 #[reqV r] w fun e w' => e = .returned (reqV (bare r)) ∧ Later w w' := by
 rw [bare_9 r h]
 obtain ⟨d, ht, hg, hrr, K, V, O, lim, ten, qk, qb, rts⟩ := r
 dsimp only at h
 subst h
 unfold reqV
 simp only [reqA, strV, req0]
 have HLL := Lib.hid (fun o1 o2 o3 => (((Later.refl w).alloc o1).alloc o2).alloc o3)
 go_enter Tryz.func62, Tryz.ntmps62
 go_wp2_with fail
 refine bodyPost_ret ?_ rfl ⟨rfl, HLL.out _ _ _⟩
 simp [results, Tryz.results62, go_sem]
theorem bare_10 (r : Req) (h : r.deed = 10) : bare r = { req0 with deed := 10, ten := r.ten } := by simp [bare, deedN, h, fldsN, setF]
set_option maxRecDepth 100000 in
set_option maxHeartbeats 8000000 in
theorem refBare_10 (r : Req) (h : r.deed = 10) (w : World) : Calls Tryz.prog 62 #[reqV r] w fun e w' => e = .returned (reqV (bare r)) ∧ Later w w' := by
 rw [bare_10 r h]
 obtain ⟨d, ht, hg, hrr, K, V, O, lim, ten, qk, qb, rts⟩ := r
 dsimp only at h
 subst h
 unfold reqV
 simp only [reqA, strV, req0]
 have HLL := Lib.hid (fun o1 o2 o3 => (((Later.refl w).alloc o1).alloc o2).alloc o3)
 go_enter Tryz.func62, Tryz.ntmps62
 go_wp2_with fail
 refine bodyPost_ret ?_ rfl ⟨rfl, HLL.out _ _ _⟩
 simp [results, Tryz.results62, go_sem]
theorem refBare_is (r : Req) (h : 1 ≤ r.deed ∧ r.deed ≤ 10) (w : World) : Calls Tryz.prog 62 #[reqV r] w fun e w' => e = .returned (reqV (bare r)) ∧ Later w w' := by
 have h2 : r.deed = 1 ∨ r.deed = 2 ∨ r.deed = 3 ∨ r.deed = 4 ∨ r.deed = 5 ∨ r.deed = 6 ∨ r.deed = 7 ∨ r.deed = 8 ∨ r.deed = 9 ∨ r.deed = 10 := by omega
 rcases h2 with h | h | h | h | h | h | h | h | h | h
 ·exact refBare_1 r h w
 ·exact refBare_2 r h w
 ·exact refBare_3 r h w
 ·exact refBare_4 r h w
 ·exact refBare_5 r h w
 ·exact refBare_6 r h w
 ·exact refBare_7 r h w
 ·exact refBare_8 r h w
 ·exact refBare_9 r h w
 ·exact refBare_10 r h w
end Go.Proofs.YtkbedajbbakihaaGreatDoor
