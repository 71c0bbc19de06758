/-
 Texts of this proof, put together (Cl, Pn): each part's first words say what it holds. Conditions: as each part says.
-/
import Derived.Test.YtkbedajbbakihaaGreatDoorYd
import Derived.Test.YtkbedajbbakihaaGreatDoorQb
import Derived.Deep.WholeRow
/-
 Clean texts, walked: clean. Conditions: none.
-/
namespace Go.Proofs.YtkbedajbbakihaaGreatDoor
open Go.RowKit
set_option linter.unusedSimpArgs false
set_option linter.unusedVariables false

theorem cln_cases (c : UInt8) (h : cln c = true ∨ c = 10) : (97 ≤ c.toNat ∧ c.toNat ≤ 122) ∨ (65 ≤ c.toNat ∧ c.toNat ≤ 90) ∨ (48 ≤ c.toNat ∧ c.toNat ≤ 57) ∨ c.toNat = 32 ∨ c.toNat = 10 ∨ c.toNat = 46 ∨ c.toNat = 95 ∨ c.toNat = 45 ∨ c.toNat = 37 := by
 have hd : ∀ n : Fin 256, (cln (UInt8.ofNat n.val) = true ∨ UInt8.ofNat n.val = 10) → ((97 ≤ n.val ∧ n.val ≤ 122) ∨ (65 ≤ n.val ∧ n.val ≤ 90) ∨ (48 ≤ n.val ∧ n.val ≤ 57) ∨ n.val = 32 ∨ n.val = 10 ∨ n.val = 46 ∨ n.val = 95 ∨ n.val = 45 ∨ n.val = 37) := by decide +kernel
 have := hd ⟨c.toNat, c.toNat_lt⟩
 simp only [UInt8.ofNat_toNat] at this
 exact this h
set_option maxRecDepth 100000 in
theorem Clean_is (s : ByteArray) (h : ClnT s.data.toList) (hs : s.size ≤ 1000000000) (w : World) : Calls Tryz.prog 28 #[.string s] w fun e w' => e = .returned (.bool true) ∧ w' = w := by
 have HC := Lib.hid h
 clear h
 go_enter Tryz.func28, Tryz.ntmps28
 go_wp2_with fail
 go_loop [3] (fun i => ∃ k : Nat, k ≤ s.size ∧ i = .int .i64 k) (fun i => s.size - (intOf i).toNat)
 case atStart => exact ⟨0, Nat.zero_le _, rfl⟩
 case round =>
  obtain ⟨k, hk, rfl⟩ := hrel
  by_cases hlt : k < s.size
  ·have hmem : s[k] ∈ s.data.toList := by
    show s.data[k] ∈ _
    rw [Array.mem_toList_iff]
    exact Array.getElem_mem _
   have hcl := HC.out _ hmem
   rcases cln_cases _ hcl with ⟨h1, h2⟩ | ⟨h1, h2⟩ | ⟨h1, h2⟩ | h1 | h1 | h1 | h1 | h1 | h1
   ·have a0 : decide ((97 : Int) ≤ (s[k].toNat : Int)) = true := by exact decide_eq_true (by omega)
    have b0 : decide ((s[k].toNat : Int) ≤ (122 : Int)) = true := by exact decide_eq_true (by omega)
    clear hcl hmem h1 h2
    go_wp2_with fail
    go_round
    case rel => exact ⟨k + 1, by omega, by go_num⟩
    case measure => simp [intOf]; omega
   ·have a0 : decide ((97 : Int) ≤ (s[k].toNat : Int)) = false := by exact decide_eq_false (by omega)
    have a1 : decide ((65 : Int) ≤ (s[k].toNat : Int)) = true := by exact decide_eq_true (by omega)
    have b1 : decide ((s[k].toNat : Int) ≤ (90 : Int)) = true := by exact decide_eq_true (by omega)
    clear hcl hmem h1 h2
    go_wp2_with fail
    go_round
    case rel => exact ⟨k + 1, by omega, by go_num⟩
    case measure => simp [intOf]; omega
   ·have a0 : decide ((97 : Int) ≤ (s[k].toNat : Int)) = false := by exact decide_eq_false (by omega)
    have a1 : decide ((65 : Int) ≤ (s[k].toNat : Int)) = false := by exact decide_eq_false (by omega)
    have a2 : decide ((48 : Int) ≤ (s[k].toNat : Int)) = true := by exact decide_eq_true (by omega)
    have b2 : decide ((s[k].toNat : Int) ≤ (57 : Int)) = true := by exact decide_eq_true (by omega)
    clear hcl hmem h1 h2
    go_wp2_with fail
    go_round
    case rel => exact ⟨k + 1, by omega, by go_num⟩
    case measure => simp [intOf]; omega
   ·have a0 : decide ((97 : Int) ≤ (s[k].toNat : Int)) = false := by exact decide_eq_false (by omega)
    have a1 : decide ((65 : Int) ≤ (s[k].toNat : Int)) = false := by exact decide_eq_false (by omega)
    have a2 : decide ((48 : Int) ≤ (s[k].toNat : Int)) = false := by exact decide_eq_false (by omega)
    have e32 : ((s[k].toNat : Int) == 32) = true := by simp only [beq_iff_eq]; omega
    clear hcl hmem h1
    go_wp2_with fail
    go_round
    case rel => exact ⟨k + 1, by omega, by go_num⟩
    case measure => simp [intOf]; omega
   ·have a0 : decide ((97 : Int) ≤ (s[k].toNat : Int)) = false := by exact decide_eq_false (by omega)
    have a1 : decide ((65 : Int) ≤ (s[k].toNat : Int)) = false := by exact decide_eq_false (by omega)
    have a2 : decide ((48 : Int) ≤ (s[k].toNat : Int)) = false := by exact decide_eq_false (by omega)
    have e32 : ((s[k].toNat : Int) == 32) = false := by simp only [beq_eq_false_iff_ne, ne_eq]; omega
    have e10 : ((s[k].toNat : Int) == 10) = true := by simp only [beq_iff_eq]; omega
    clear hcl hmem h1
    go_wp2_with fail
    go_round
    case rel => exact ⟨k + 1, by omega, by go_num⟩
    case measure => simp [intOf]; omega
   ·have a0 : decide ((97 : Int) ≤ (s[k].toNat : Int)) = false := by exact decide_eq_false (by omega)
    have a1 : decide ((65 : Int) ≤ (s[k].toNat : Int)) = false := by exact decide_eq_false (by omega)
    have a2 : decide ((48 : Int) ≤ (s[k].toNat : Int)) = false := by exact decide_eq_false (by omega)
    have e32 : ((s[k].toNat : Int) == 32) = false := by simp only [beq_eq_false_iff_ne, ne_eq]; omega
    have e10 : ((s[k].toNat : Int) == 10) = false := by simp only [beq_eq_false_iff_ne, ne_eq]; omega
    have e46 : ((s[k].toNat : Int) == 46) = true := by simp only [beq_iff_eq]; omega
    clear hcl hmem h1
    go_wp2_with fail
    go_round
    case rel => exact ⟨k + 1, by omega, by go_num⟩
    case measure => simp [intOf]; omega
   ·have a0 : decide ((97 : Int) ≤ (s[k].toNat : Int)) = false := by exact decide_eq_false (by omega)
    have a1 : decide ((65 : Int) ≤ (s[k].toNat : Int)) = true := by exact decide_eq_true (by omega)
    have b1 : decide ((s[k].toNat : Int) ≤ (90 : Int)) = false := by exact decide_eq_false (by omega)
    have a2 : decide ((48 : Int) ≤ (s[k].toNat : Int)) = true := by exact decide_eq_true (by omega)
    have b2 : decide ((s[k].toNat : Int) ≤ (57 : Int)) = false := by exact decide_eq_false (by omega)
    have e32 : ((s[k].toNat : Int) == 32) = false := by simp only [beq_eq_false_iff_ne, ne_eq]; omega
    have e10 : ((s[k].toNat : Int) == 10) = false := by simp only [beq_eq_false_iff_ne, ne_eq]; omega
    have e46 : ((s[k].toNat : Int) == 46) = false := by simp only [beq_eq_false_iff_ne, ne_eq]; omega
    have e95 : ((s[k].toNat : Int) == 95) = true := by simp only [beq_iff_eq]; omega
    clear hcl hmem h1
    go_wp2_with fail
    go_round
    case rel => exact ⟨k + 1, by omega, by go_num⟩
    case measure => simp [intOf]; omega
   ·have a0 : decide ((97 : Int) ≤ (s[k].toNat : Int)) = false := by exact decide_eq_false (by omega)
    have a1 : decide ((65 : Int) ≤ (s[k].toNat : Int)) = false := by exact decide_eq_false (by omega)
    have a2 : decide ((48 : Int) ≤ (s[k].toNat : Int)) = false := by exact decide_eq_false (by omega)
    have e32 : ((s[k].toNat : Int) == 32) = false := by simp only [beq_eq_false_iff_ne, ne_eq]; omega
    have e10 : ((s[k].toNat : Int) == 10) = false := by simp only [beq_eq_false_iff_ne, ne_eq]; omega
    have e46 : ((s[k].toNat : Int) == 46) = false := by simp only [beq_eq_false_iff_ne, ne_eq]; omega
    have e95 : ((s[k].toNat : Int) == 95) = false := by simp only [beq_eq_false_iff_ne, ne_eq]; omega
    have e45 : ((s[k].toNat : Int) == 45) = true := by simp only [beq_iff_eq]; omega
    clear hcl hmem h1
    go_wp2_with fail
    go_round
    case rel => exact ⟨k + 1, by omega, by go_num⟩
    case measure => simp [intOf]; omega
   ·have a0 : decide ((97 : Int) ≤ (s[k].toNat : Int)) = false := by exact decide_eq_false (by omega)
    have a1 : decide ((65 : Int) ≤ (s[k].toNat : Int)) = false := by exact decide_eq_false (by omega)
    have a2 : decide ((48 : Int) ≤ (s[k].toNat : Int)) = false := by exact decide_eq_false (by omega)
    have e32 : ((s[k].toNat : Int) == 32) = false := by simp only [beq_eq_false_iff_ne, ne_eq]; omega
    have e10 : ((s[k].toNat : Int) == 10) = false := by simp only [beq_eq_false_iff_ne, ne_eq]; omega
    have e46 : ((s[k].toNat : Int) == 46) = false := by simp only [beq_eq_false_iff_ne, ne_eq]; omega
    have e95 : ((s[k].toNat : Int) == 95) = false := by simp only [beq_eq_false_iff_ne, ne_eq]; omega
    have e45 : ((s[k].toNat : Int) == 45) = false := by simp only [beq_eq_false_iff_ne, ne_eq]; omega
    have e37 : ((s[k].toNat : Int) == 37) = true := by simp only [beq_iff_eq]; omega
    clear hcl hmem h1
    go_wp2_with fail
    go_round
    case rel => exact ⟨k + 1, by omega, by go_num⟩
    case measure => simp [intOf]; omega
  ·go_wp2_with fail
   go_ret
   exact ⟨rfl, rfl⟩
end Go.Proofs.YtkbedajbbakihaaGreatDoor

/-
 Plain requests: the law's plain, plainly and walked. Conditions: the numbers are within their types.
-/
namespace Go.Proofs.YtkbedajbbakihaaGreatDoor
open Go.RowKit
set_option linter.unusedSimpArgs false
set_option linter.unusedVariables false

def plD (r : Req) : Int := 1 + r.deed % 10
def plT (r : Req) : Int := 1 + r.ht % 16
def plG (r : Req) : Int := max r.hg 1
def plR (x : Int) : Int := 1 + x % 7
def plM (x : Int) : Int := x % 1000000000
/-- the request that the law makes plain -/
def plainR (r : Req) : Req :=
 let h : Req := if plD r ≤ 6 then { req0 with deed := plD r, ht := plT r, hg := plG r, hr := plR r.hr } else { req0 with deed := plD r, ten := plM r.ten }
 if plD r = 1 then { h with key := r.key } else
 if plD r = 2 then { h with key := r.key, val := r.val } else
 if plD r = 3 then { h with key := r.key } else
 if plD r = 4 then { h with key := r.key, old := r.old, val := r.val } else
 if plD r = 5 then { h with key := r.key, lim := plM r.lim } else
 if plD r = 7 then { h with qk := r.qk, qb := r.qb } else
 if plD r = 9 then { h with rts := plR r.rts } else h
theorem tm_10 (x : Int) : (x.tmod 10 + 10).tmod 10 = x % 10 := by
 rcases Int.le_total 0 x with h | h
 ·rw [Int.tmod_eq_emod_of_nonneg h, Int.tmod_eq_emod_of_nonneg (by omega)]
  omega
 ·obtain ⟨y, rfl⟩ : ∃ y, x = -y := ⟨-x, by omega⟩
  rw [Int.neg_tmod, Int.tmod_eq_emod_of_nonneg (a := y) (by omega), Int.tmod_eq_emod_of_nonneg (by omega)]
  omega
theorem tb_10 (x : Int) : -10 < x.tmod 10 ∧ x.tmod 10 < 10 := by
 rcases Int.le_total 0 x with h | h
 ·rw [Int.tmod_eq_emod_of_nonneg h]
  omega
 ·obtain ⟨y, rfl⟩ : ∃ y, x = -y := ⟨-x, by omega⟩
  rw [Int.neg_tmod, Int.tmod_eq_emod_of_nonneg (a := y) (by omega)]
  omega
theorem tm_16 (x : Int) : (x.tmod 16 + 16).tmod 16 = x % 16 := by
 rcases Int.le_total 0 x with h | h
 ·rw [Int.tmod_eq_emod_of_nonneg h, Int.tmod_eq_emod_of_nonneg (by omega)]
  omega
 ·obtain ⟨y, rfl⟩ : ∃ y, x = -y := ⟨-x, by omega⟩
  rw [Int.neg_tmod, Int.tmod_eq_emod_of_nonneg (a := y) (by omega), Int.tmod_eq_emod_of_nonneg (by omega)]
  omega
theorem tb_16 (x : Int) : -16 < x.tmod 16 ∧ x.tmod 16 < 16 := by
 rcases Int.le_total 0 x with h | h
 ·rw [Int.tmod_eq_emod_of_nonneg h]
  omega
 ·obtain ⟨y, rfl⟩ : ∃ y, x = -y := ⟨-x, by omega⟩
  rw [Int.neg_tmod, Int.tmod_eq_emod_of_nonneg (a := y) (by omega)]
  omega
theorem tm_1000000000 (x : Int) : (x.tmod 1000000000 + 1000000000).tmod 1000000000 = x % 1000000000 := by
 rcases Int.le_total 0 x with h | h
 ·rw [Int.tmod_eq_emod_of_nonneg h, Int.tmod_eq_emod_of_nonneg (by omega)]
  omega
 ·obtain ⟨y, rfl⟩ : ∃ y, x = -y := ⟨-x, by omega⟩
  rw [Int.neg_tmod, Int.tmod_eq_emod_of_nonneg (a := y) (by omega), Int.tmod_eq_emod_of_nonneg (by omega)]
  omega
theorem tb_1000000000 (x : Int) : -1000000000 < x.tmod 1000000000 ∧ x.tmod 1000000000 < 1000000000 := by
 rcases Int.le_total 0 x with h | h
 ·rw [Int.tmod_eq_emod_of_nonneg h]
  omega
 ·obtain ⟨y, rfl⟩ : ∃ y, x = -y := ⟨-x, by omega⟩
  rw [Int.neg_tmod, Int.tmod_eq_emod_of_nonneg (a := y) (by omega)]
  omega
theorem wf64 {x : Int} (h : (Lit.int .i64 x).wf = true) : -9223372036854775808 ≤ x ∧ x ≤ 9223372036854775807 := by
 simp [Lit.wf, IntKind.min, IntKind.max, IntKind.signed, IntKind.bits] at h
 exact h
theorem wf32 {x : Int} (h : (Lit.int .u32 x).wf = true) : 0 ≤ x ∧ x ≤ 4294967295 := by
 simp [Lit.wf, IntKind.min, IntKind.max, IntKind.signed, IntKind.bits] at h
 exact h
theorem wf8 {x : Int} (h : (Lit.int .u8 x).wf = true) : 0 ≤ x ∧ x ≤ 255 := by
 simp [Lit.wf, IntKind.min, IntKind.max, IntKind.signed, IntKind.bits] at h
 exact h
theorem wr64 {x : Int} (h : -9223372036854775808 ≤ x ∧ x ≤ 9223372036854775807) : RowKit.wrap64 x = x := IntWalk.wrap64_in x h
theorem wr8 {x : Int} (h : 0 ≤ x ∧ x ≤ 255) : IntKind.u8.wrap x = x := IntWalk.u8_in x h
theorem plain_1 (r : Req) (h : plD r = 1) : plainR r = { req0 with deed := 1, ht := plT r, hg := plG r, hr := plR r.hr, key := r.key } := by simp [plainR, h]
theorem plain_2 (r : Req) (h : plD r = 2) : plainR r = { req0 with deed := 2, ht := plT r, hg := plG r, hr := plR r.hr, key := r.key, val := r.val } := by simp [plainR, h]
theorem plain_3 (r : Req) (h : plD r = 3) : plainR r = { req0 with deed := 3, ht := plT r, hg := plG r, hr := plR r.hr, key := r.key } := by simp [plainR, h]
theorem plain_4 (r : Req) (h : plD r = 4) : plainR r = { req0 with deed := 4, ht := plT r, hg := plG r, hr := plR r.hr, key := r.key, old := r.old, val := r.val } := by simp [plainR, h]
theorem plain_5 (r : Req) (h : plD r = 5) : plainR r = { req0 with deed := 5, ht := plT r, hg := plG r, hr := plR r.hr, key := r.key, lim := plM r.lim } := by simp [plainR, h]
theorem plain_6 (r : Req) (h : plD r = 6) : plainR r = { req0 with deed := 6, ht := plT r, hg := plG r, hr := plR r.hr } := by simp [plainR, h]
theorem plain_7 (r : Req) (h : plD r = 7) : plainR r = { req0 with deed := 7, ten := plM r.ten, qk := r.qk, qb := r.qb } := by simp [plainR, h]
theorem plain_8 (r : Req) (h : plD r = 8) : plainR r = { req0 with deed := 8, ten := plM r.ten } := by simp [plainR, h]
theorem plain_9 (r : Req) (h : plD r = 9) : plainR r = { req0 with deed := 9, ten := plM r.ten, rts := plR r.rts } := by simp [plainR, h]
theorem plain_10 (r : Req) (h : plD r = 10) : plainR r = { req0 with deed := 10, ten := plM r.ten } := by simp [plainR, h]
set_option maxRecDepth 100000 in
set_option maxHeartbeats 8000000 in
theorem Plain_1 (r : Req) (hr : r.wf) (hd : plD r = 1) (w : World) : Calls Tryz.prog 27 #[reqV r] w fun e w' => e = .returned (reqV (plainR r)) ∧ Later w w' := by
 rw [plain_1 r hd]
 obtain ⟨d, ht, hg, hrr, K, V, O, lim, ten, qk, qb, rts⟩ := r
 have b1 := wf64 hr.deed
 have b2 := wf64 hr.ht
 have b3 := wf64 hr.lim
 have b4 := wf64 hr.ten
 have b5 := wf8 hr.hr
 have b6 := wf8 hr.rts
 have b7 := wf32 hr.hg
 unfold plD at hd
 dsimp only at hd b1 b2 b3 b4 b5 b6 b7
 obtain ⟨db, db'⟩ := tb_10 d
 have d1 : RowKit.wrap64 (d.tmod 10 + 10) = d.tmod 10 + 10 := by apply wr64; omega
 have d2 := tm_10 d
 rw [show d % 10 = 0 by omega] at d2
 obtain ⟨tb, tb'⟩ := tb_16 ht
 have t1 : RowKit.wrap64 (ht.tmod 16 + 16) = ht.tmod 16 + 16 := by apply wr64; omega
 have t2 := tm_16 ht
 obtain ⟨nb, nb'⟩ := tb_1000000000 ten
 have n1 : RowKit.wrap64 (ten.tmod 1000000000 + 1000000000) = ten.tmod 1000000000 + 1000000000 := by apply wr64; omega
 have n2 := tm_1000000000 ten
 obtain ⟨lb, lb'⟩ := tb_1000000000 lim
 have l1 : RowKit.wrap64 (lim.tmod 1000000000 + 1000000000) = lim.tmod 1000000000 + 1000000000 := by apply wr64; omega
 have l2 := tm_1000000000 lim
 obtain ⟨T, hT⟩ : ∃ T, ht % 16 = T := ⟨_, rfl⟩
 rw [hT] at t2
 have cT : 0 ≤ T := by omega
 have cT' : T < 16 := by omega
 obtain ⟨N, hN⟩ : ∃ N, ten % 1000000000 = N := ⟨_, rfl⟩
 rw [hN] at n2
 have cN : 0 ≤ N := by omega
 have cN' : N < 1000000000 := by omega
 obtain ⟨M, hM⟩ : ∃ M, lim % 1000000000 = M := ⟨_, rfl⟩
 rw [hM] at l2
 have cM : 0 ≤ M := by omega
 have cM' : M < 1000000000 := by omega
 have t3 : RowKit.wrap64 (1 + T) = 1 + T := by apply wr64; omega
 obtain ⟨R, hR⟩ : ∃ R, hrr % 7 = R := ⟨_, rfl⟩
 have r1 : hrr.tmod 7 = R := by rw [Int.tmod_eq_emod_of_nonneg b5.1]; exact hR
 have r2 : IntKind.u8.wrap (1 + R) = 1 + R := wr8 (by omega)
 have r3 : IntKind.u8.wrap R = R := wr8 (by omega)
 obtain ⟨S, hS⟩ : ∃ S, rts % 7 = S := ⟨_, rfl⟩
 have s1 : rts.tmod 7 = S := by rw [Int.tmod_eq_emod_of_nonneg b6.1]; exact hS
 have s2 : IntKind.u8.wrap (1 + S) = 1 + S := wr8 (by omega)
 have s3 : IntKind.u8.wrap S = S := wr8 (by omega)
 unfold reqV
 simp only [reqA, strV, plT, plG, plR, plM, req0, hT, hN, hM, hR, hS]
 have HT := Lib.hid (And.intro hT (And.intro hN (And.intro hM (And.intro hR hS))))
 have HLL := Lib.hid (fun o1 o2 o3 o4 => ((((Later.refl w).alloc o1).alloc o2).alloc o3).alloc o4)
 clear hr hd b1 b2 b3 b4 b5 b6 b7 hT hN hM hR hS
 go_enter Tryz.func27, Tryz.ntmps27
 go_wp2_with fail
 refine bodyPost_ret ?_ rfl ⟨rfl, by first | exact HLL.out _ _ _ _ | exact (HLL.out _ _ _ _).drew⟩
 simp [results, Tryz.results27, go_sem]
set_option maxRecDepth 100000 in
set_option maxHeartbeats 8000000 in
theorem Plain_2 (r : Req) (hr : r.wf) (hd : plD r = 2) (w : World) : Calls Tryz.prog 27 #[reqV r] w fun e w' => e = .returned (reqV (plainR r)) ∧ Later w w' := by
 rw [plain_2 r hd]
 obtain ⟨d, ht, hg, hrr, K, V, O, lim, ten, qk, qb, rts⟩ := r
 have b1 := wf64 hr.deed
 have b2 := wf64 hr.ht
 have b3 := wf64 hr.lim
 have b4 := wf64 hr.ten
 have b5 := wf8 hr.hr
 have b6 := wf8 hr.rts
 have b7 := wf32 hr.hg
 unfold plD at hd
 dsimp only at hd b1 b2 b3 b4 b5 b6 b7
 obtain ⟨db, db'⟩ := tb_10 d
 have d1 : RowKit.wrap64 (d.tmod 10 + 10) = d.tmod 10 + 10 := by apply wr64; omega
 have d2 := tm_10 d
 rw [show d % 10 = 1 by omega] at d2
 obtain ⟨tb, tb'⟩ := tb_16 ht
 have t1 : RowKit.wrap64 (ht.tmod 16 + 16) = ht.tmod 16 + 16 := by apply wr64; omega
 have t2 := tm_16 ht
 obtain ⟨nb, nb'⟩ := tb_1000000000 ten
 have n1 : RowKit.wrap64 (ten.tmod 1000000000 + 1000000000) = ten.tmod 1000000000 + 1000000000 := by apply wr64; omega
 have n2 := tm_1000000000 ten
 obtain ⟨lb, lb'⟩ := tb_1000000000 lim
 have l1 : RowKit.wrap64 (lim.tmod 1000000000 + 1000000000) = lim.tmod 1000000000 + 1000000000 := by apply wr64; omega
 have l2 := tm_1000000000 lim
 obtain ⟨T, hT⟩ : ∃ T, ht % 16 = T := ⟨_, rfl⟩
 rw [hT] at t2
 have cT : 0 ≤ T := by omega
 have cT' : T < 16 := by omega
 obtain ⟨N, hN⟩ : ∃ N, ten % 1000000000 = N := ⟨_, rfl⟩
 rw [hN] at n2
 have cN : 0 ≤ N := by omega
 have cN' : N < 1000000000 := by omega
 obtain ⟨M, hM⟩ : ∃ M, lim % 1000000000 = M := ⟨_, rfl⟩
 rw [hM] at l2
 have cM : 0 ≤ M := by omega
 have cM' : M < 1000000000 := by omega
 have t3 : RowKit.wrap64 (1 + T) = 1 + T := by apply wr64; omega
 obtain ⟨R, hR⟩ : ∃ R, hrr % 7 = R := ⟨_, rfl⟩
 have r1 : hrr.tmod 7 = R := by rw [Int.tmod_eq_emod_of_nonneg b5.1]; exact hR
 have r2 : IntKind.u8.wrap (1 + R) = 1 + R := wr8 (by omega)
 have r3 : IntKind.u8.wrap R = R := wr8 (by omega)
 obtain ⟨S, hS⟩ : ∃ S, rts % 7 = S := ⟨_, rfl⟩
 have s1 : rts.tmod 7 = S := by rw [Int.tmod_eq_emod_of_nonneg b6.1]; exact hS
 have s2 : IntKind.u8.wrap (1 + S) = 1 + S := wr8 (by omega)
 have s3 : IntKind.u8.wrap S = S := wr8 (by omega)
 unfold reqV
 simp only [reqA, strV, plT, plG, plR, plM, req0, hT, hN, hM, hR, hS]
 have HT := Lib.hid (And.intro hT (And.intro hN (And.intro hM (And.intro hR hS))))
 have HLL := Lib.hid (fun o1 o2 o3 o4 => ((((Later.refl w).alloc o1).alloc o2).alloc o3).alloc o4)
 clear hr hd b1 b2 b3 b4 b5 b6 b7 hT hN hM hR hS
 go_enter Tryz.func27, Tryz.ntmps27
 go_wp2_with fail
 go_region
 go_wp2_with fail
 refine bodyPost_ret ?_ rfl ⟨rfl, by first | exact HLL.out _ _ _ _ | exact (HLL.out _ _ _ _).drew⟩
 simp [results, Tryz.results27, go_sem]
set_option maxRecDepth 100000 in
set_option maxHeartbeats 8000000 in
theorem Plain_3 (r : Req) (hr : r.wf) (hd : plD r = 3) (w : World) : Calls Tryz.prog 27 #[reqV r] w fun e w' => e = .returned (reqV (plainR r)) ∧ Later w w' := by
 rw [plain_3 r hd]
 obtain ⟨d, ht, hg, hrr, K, V, O, lim, ten, qk, qb, rts⟩ := r
 have b1 := wf64 hr.deed
 have b2 := wf64 hr.ht
 have b3 := wf64 hr.lim
 have b4 := wf64 hr.ten
 have b5 := wf8 hr.hr
 have b6 := wf8 hr.rts
 have b7 := wf32 hr.hg
 unfold plD at hd
 dsimp only at hd b1 b2 b3 b4 b5 b6 b7
 obtain ⟨db, db'⟩ := tb_10 d
 have d1 : RowKit.wrap64 (d.tmod 10 + 10) = d.tmod 10 + 10 := by apply wr64; omega
 have d2 := tm_10 d
 rw [show d % 10 = 2 by omega] at d2
 obtain ⟨tb, tb'⟩ := tb_16 ht
 have t1 : RowKit.wrap64 (ht.tmod 16 + 16) = ht.tmod 16 + 16 := by apply wr64; omega
 have t2 := tm_16 ht
 obtain ⟨nb, nb'⟩ := tb_1000000000 ten
 have n1 : RowKit.wrap64 (ten.tmod 1000000000 + 1000000000) = ten.tmod 1000000000 + 1000000000 := by apply wr64; omega
 have n2 := tm_1000000000 ten
 obtain ⟨lb, lb'⟩ := tb_1000000000 lim
 have l1 : RowKit.wrap64 (lim.tmod 1000000000 + 1000000000) = lim.tmod 1000000000 + 1000000000 := by apply wr64; omega
 have l2 := tm_1000000000 lim
 obtain ⟨T, hT⟩ : ∃ T, ht % 16 = T := ⟨_, rfl⟩
 rw [hT] at t2
 have cT : 0 ≤ T := by omega
 have cT' : T < 16 := by omega
 obtain ⟨N, hN⟩ : ∃ N, ten % 1000000000 = N := ⟨_, rfl⟩
 rw [hN] at n2
 have cN : 0 ≤ N := by omega
 have cN' : N < 1000000000 := by omega
 obtain ⟨M, hM⟩ : ∃ M, lim % 1000000000 = M := ⟨_, rfl⟩
 rw [hM] at l2
 have cM : 0 ≤ M := by omega
 have cM' : M < 1000000000 := by omega
 have t3 : RowKit.wrap64 (1 + T) = 1 + T := by apply wr64; omega
 obtain ⟨R, hR⟩ : ∃ R, hrr % 7 = R := ⟨_, rfl⟩
 have r1 : hrr.tmod 7 = R := by rw [Int.tmod_eq_emod_of_nonneg b5.1]; exact hR
 have r2 : IntKind.u8.wrap (1 + R) = 1 + R := wr8 (by omega)
 have r3 : IntKind.u8.wrap R = R := wr8 (by omega)
 obtain ⟨S, hS⟩ : ∃ S, rts % 7 = S := ⟨_, rfl⟩
 have s1 : rts.tmod 7 = S := by rw [Int.tmod_eq_emod_of_nonneg b6.1]; exact hS
 have s2 : IntKind.u8.wrap (1 + S) = 1 + S := wr8 (by omega)
 have s3 : IntKind.u8.wrap S = S := wr8 (by omega)
 unfold reqV
 simp only [reqA, strV, plT, plG, plR, plM, req0, hT, hN, hM, hR, hS]
 have HT := Lib.hid (And.intro hT (And.intro hN (And.intro hM (And.intro hR hS))))
 have HLL := Lib.hid (fun o1 o2 o3 o4 => ((((Later.refl w).alloc o1).alloc o2).alloc o3).alloc o4)
 clear hr hd b1 b2 b3 b4 b5 b6 b7 hT hN hM hR hS
 go_enter Tryz.func27, Tryz.ntmps27
 go_wp2_with fail
 refine bodyPost_ret ?_ rfl ⟨rfl, by first | exact HLL.out _ _ _ _ | exact (HLL.out _ _ _ _).drew⟩
 simp [results, Tryz.results27, go_sem]
set_option maxRecDepth 100000 in
set_option maxHeartbeats 8000000 in
theorem Plain_4 (r : Req) (hr : r.wf) (hd : plD r = 4) (w : World) : Calls Tryz.prog 27 #[reqV r] w fun e w' => e = .returned (reqV (plainR r)) ∧ Later w w' := by
 rw [plain_4 r hd]
 obtain ⟨d, ht, hg, hrr, K, V, O, lim, ten, qk, qb, rts⟩ := r
 have b1 := wf64 hr.deed
 have b2 := wf64 hr.ht
 have b3 := wf64 hr.lim
 have b4 := wf64 hr.ten
 have b5 := wf8 hr.hr
 have b6 := wf8 hr.rts
 have b7 := wf32 hr.hg
 unfold plD at hd
 dsimp only at hd b1 b2 b3 b4 b5 b6 b7
 obtain ⟨db, db'⟩ := tb_10 d
 have d1 : RowKit.wrap64 (d.tmod 10 + 10) = d.tmod 10 + 10 := by apply wr64; omega
 have d2 := tm_10 d
 rw [show d % 10 = 3 by omega] at d2
 obtain ⟨tb, tb'⟩ := tb_16 ht
 have t1 : RowKit.wrap64 (ht.tmod 16 + 16) = ht.tmod 16 + 16 := by apply wr64; omega
 have t2 := tm_16 ht
 obtain ⟨nb, nb'⟩ := tb_1000000000 ten
 have n1 : RowKit.wrap64 (ten.tmod 1000000000 + 1000000000) = ten.tmod 1000000000 + 1000000000 := by apply wr64; omega
 have n2 := tm_1000000000 ten
 obtain ⟨lb, lb'⟩ := tb_1000000000 lim
 have l1 : RowKit.wrap64 (lim.tmod 1000000000 + 1000000000) = lim.tmod 1000000000 + 1000000000 := by apply wr64; omega
 have l2 := tm_1000000000 lim
 obtain ⟨T, hT⟩ : ∃ T, ht % 16 = T := ⟨_, rfl⟩
 rw [hT] at t2
 have cT : 0 ≤ T := by omega
 have cT' : T < 16 := by omega
 obtain ⟨N, hN⟩ : ∃ N, ten % 1000000000 = N := ⟨_, rfl⟩
 rw [hN] at n2
 have cN : 0 ≤ N := by omega
 have cN' : N < 1000000000 := by omega
 obtain ⟨M, hM⟩ : ∃ M, lim % 1000000000 = M := ⟨_, rfl⟩
 rw [hM] at l2
 have cM : 0 ≤ M := by omega
 have cM' : M < 1000000000 := by omega
 have t3 : RowKit.wrap64 (1 + T) = 1 + T := by apply wr64; omega
 obtain ⟨R, hR⟩ : ∃ R, hrr % 7 = R := ⟨_, rfl⟩
 have r1 : hrr.tmod 7 = R := by rw [Int.tmod_eq_emod_of_nonneg b5.1]; exact hR
 have r2 : IntKind.u8.wrap (1 + R) = 1 + R := wr8 (by omega)
 have r3 : IntKind.u8.wrap R = R := wr8 (by omega)
 obtain ⟨S, hS⟩ : ∃ S, rts % 7 = S := ⟨_, rfl⟩
 have s1 : rts.tmod 7 = S := by rw [Int.tmod_eq_emod_of_nonneg b6.1]; exact hS
 have s2 : IntKind.u8.wrap (1 + S) = 1 + S := wr8 (by omega)
 have s3 : IntKind.u8.wrap S = S := wr8 (by omega)
 unfold reqV
 simp only [reqA, strV, plT, plG, plR, plM, req0, hT, hN, hM, hR, hS]
 have HT := Lib.hid (And.intro hT (And.intro hN (And.intro hM (And.intro hR hS))))
 have HLL := Lib.hid (fun o1 o2 o3 o4 => ((((Later.refl w).alloc o1).alloc o2).alloc o3).alloc o4)
 clear hr hd b1 b2 b3 b4 b5 b6 b7 hT hN hM hR hS
 go_enter Tryz.func27, Tryz.ntmps27
 go_wp2_with fail
 go_region
 go_wp2_with fail
 refine bodyPost_ret ?_ rfl ⟨rfl, by first | exact HLL.out _ _ _ _ | exact (HLL.out _ _ _ _).drew⟩
 simp [results, Tryz.results27, go_sem]
set_option maxRecDepth 100000 in
set_option maxHeartbeats 8000000 in
theorem Plain_5 (r : Req) (hr : r.wf) (hd : plD r = 5) (w : World) : Calls Tryz.prog 27 #[reqV r] w fun e w' => e = .returned (reqV (plainR r)) ∧ Later w w' := by
 rw [plain_5 r hd]
 obtain ⟨d, ht, hg, hrr, K, V, O, lim, ten, qk, qb, rts⟩ := r
 have b1 := wf64 hr.deed
 have b2 := wf64 hr.ht
 have b3 := wf64 hr.lim
 have b4 := wf64 hr.ten
 have b5 := wf8 hr.hr
 have b6 := wf8 hr.rts
 have b7 := wf32 hr.hg
 unfold plD at hd
 dsimp only at hd b1 b2 b3 b4 b5 b6 b7
 obtain ⟨db, db'⟩ := tb_10 d
 have d1 : RowKit.wrap64 (d.tmod 10 + 10) = d.tmod 10 + 10 := by apply wr64; omega
 have d2 := tm_10 d
 rw [show d % 10 = 4 by omega] at d2
 obtain ⟨tb, tb'⟩ := tb_16 ht
 have t1 : RowKit.wrap64 (ht.tmod 16 + 16) = ht.tmod 16 + 16 := by apply wr64; omega
 have t2 := tm_16 ht
 obtain ⟨nb, nb'⟩ := tb_1000000000 ten
 have n1 : RowKit.wrap64 (ten.tmod 1000000000 + 1000000000) = ten.tmod 1000000000 + 1000000000 := by apply wr64; omega
 have n2 := tm_1000000000 ten
 obtain ⟨lb, lb'⟩ := tb_1000000000 lim
 have l1 : RowKit.wrap64 (lim.tmod 1000000000 + 1000000000) = lim.tmod 1000000000 + 1000000000 := by apply wr64; omega
 have l2 := tm_1000000000 lim
 obtain ⟨T, hT⟩ : ∃ T, ht % 16 = T := ⟨_, rfl⟩
 rw [hT] at t2
 have cT : 0 ≤ T := by omega
 have cT' : T < 16 := by omega
 obtain ⟨N, hN⟩ : ∃ N, ten % 1000000000 = N := ⟨_, rfl⟩
 rw [hN] at n2
 have cN : 0 ≤ N := by omega
 have cN' : N < 1000000000 := by omega
 obtain ⟨M, hM⟩ : ∃ M, lim % 1000000000 = M := ⟨_, rfl⟩
 rw [hM] at l2
 have cM : 0 ≤ M := by omega
 have cM' : M < 1000000000 := by omega
 have t3 : RowKit.wrap64 (1 + T) = 1 + T := by apply wr64; omega
 obtain ⟨R, hR⟩ : ∃ R, hrr % 7 = R := ⟨_, rfl⟩
 have r1 : hrr.tmod 7 = R := by rw [Int.tmod_eq_emod_of_nonneg b5.1]; exact hR
 have r2 : IntKind.u8.wrap (1 + R) = 1 + R := wr8 (by omega)
 have r3 : IntKind.u8.wrap R = R := wr8 (by omega)
 obtain ⟨S, hS⟩ : ∃ S, rts % 7 = S := ⟨_, rfl⟩
 have s1 : rts.tmod 7 = S := by rw [Int.tmod_eq_emod_of_nonneg b6.1]; exact hS
 have s2 : IntKind.u8.wrap (1 + S) = 1 + S := wr8 (by omega)
 have s3 : IntKind.u8.wrap S = S := wr8 (by omega)
 unfold reqV
 simp only [reqA, strV, plT, plG, plR, plM, req0, hT, hN, hM, hR, hS]
 have HT := Lib.hid (And.intro hT (And.intro hN (And.intro hM (And.intro hR hS))))
 have HLL := Lib.hid (fun o1 o2 o3 o4 => ((((Later.refl w).alloc o1).alloc o2).alloc o3).alloc o4)
 clear hr hd b1 b2 b3 b4 b5 b6 b7 hT hN hM hR hS
 go_enter Tryz.func27, Tryz.ntmps27
 go_wp2_with fail
 go_region
 go_wp2_with fail
 refine bodyPost_ret ?_ rfl ⟨rfl, by first | exact HLL.out _ _ _ _ | exact (HLL.out _ _ _ _).drew⟩
 simp [results, Tryz.results27, go_sem]
set_option maxRecDepth 100000 in
set_option maxHeartbeats 8000000 in
theorem Plain_6 (r : Req) (hr : r.wf) (hd : plD r = 6) (w : World) : Calls Tryz.prog 27 #[reqV r] w fun e w' => e = .returned (reqV (plainR r)) ∧ Later w w' := by
 rw [plain_6 r hd]
 obtain ⟨d, ht, hg, hrr, K, V, O, lim, ten, qk, qb, rts⟩ := r
 have b1 := wf64 hr.deed
 have b2 := wf64 hr.ht
 have b3 := wf64 hr.lim
 have b4 := wf64 hr.ten
 have b5 := wf8 hr.hr
 have b6 := wf8 hr.rts
 have b7 := wf32 hr.hg
 unfold plD at hd
 dsimp only at hd b1 b2 b3 b4 b5 b6 b7
 obtain ⟨db, db'⟩ := tb_10 d
 have d1 : RowKit.wrap64 (d.tmod 10 + 10) = d.tmod 10 + 10 := by apply wr64; omega
 have d2 := tm_10 d
 rw [show d % 10 = 5 by omega] at d2
 obtain ⟨tb, tb'⟩ := tb_16 ht
 have t1 : RowKit.wrap64 (ht.tmod 16 + 16) = ht.tmod 16 + 16 := by apply wr64; omega
 have t2 := tm_16 ht
 obtain ⟨nb, nb'⟩ := tb_1000000000 ten
 have n1 : RowKit.wrap64 (ten.tmod 1000000000 + 1000000000) = ten.tmod 1000000000 + 1000000000 := by apply wr64; omega
 have n2 := tm_1000000000 ten
 obtain ⟨lb, lb'⟩ := tb_1000000000 lim
 have l1 : RowKit.wrap64 (lim.tmod 1000000000 + 1000000000) = lim.tmod 1000000000 + 1000000000 := by apply wr64; omega
 have l2 := tm_1000000000 lim
 obtain ⟨T, hT⟩ : ∃ T, ht % 16 = T := ⟨_, rfl⟩
 rw [hT] at t2
 have cT : 0 ≤ T := by omega
 have cT' : T < 16 := by omega
 obtain ⟨N, hN⟩ : ∃ N, ten % 1000000000 = N := ⟨_, rfl⟩
 rw [hN] at n2
 have cN : 0 ≤ N := by omega
 have cN' : N < 1000000000 := by omega
 obtain ⟨M, hM⟩ : ∃ M, lim % 1000000000 = M := ⟨_, rfl⟩
 rw [hM] at l2
 have cM : 0 ≤ M := by omega
 have cM' : M < 1000000000 := by omega
 have t3 : RowKit.wrap64 (1 + T) = 1 + T := by apply wr64; omega
 obtain ⟨R, hR⟩ : ∃ R, hrr % 7 = R := ⟨_, rfl⟩
 have r1 : hrr.tmod 7 = R := by rw [Int.tmod_eq_emod_of_nonneg b5.1]; exact hR
 have r2 : IntKind.u8.wrap (1 + R) = 1 + R := wr8 (by omega)
 have r3 : IntKind.u8.wrap R = R := wr8 (by omega)
 obtain ⟨S, hS⟩ : ∃ S, rts % 7 = S := ⟨_, rfl⟩
 have s1 : rts.tmod 7 = S := by rw [Int.tmod_eq_emod_of_nonneg b6.1]; exact hS
 have s2 : IntKind.u8.wrap (1 + S) = 1 + S := wr8 (by omega)
 have s3 : IntKind.u8.wrap S = S := wr8 (by omega)
 unfold reqV
 simp only [reqA, strV, plT, plG, plR, plM, req0, hT, hN, hM, hR, hS]
 have HT := Lib.hid (And.intro hT (And.intro hN (And.intro hM (And.intro hR hS))))
 have HLL := Lib.hid (fun o1 o2 o3 o4 => ((((Later.refl w).alloc o1).alloc o2).alloc o3).alloc o4)
 clear hr hd b1 b2 b3 b4 b5 b6 b7 hT hN hM hR hS
 go_enter Tryz.func27, Tryz.ntmps27
 go_wp2_with fail
 refine bodyPost_ret ?_ rfl ⟨rfl, by first | exact HLL.out _ _ _ _ | exact (HLL.out _ _ _ _).drew⟩
 simp [results, Tryz.results27, go_sem]
set_option maxRecDepth 100000 in
set_option maxHeartbeats 8000000 in
theorem Plain_7 (r : Req) (hr : r.wf) (hd : plD r = 7) (w : World) : Calls Tryz.prog 27 #[reqV r] w fun e w' => e = .returned (reqV (plainR r)) ∧ Later w w' := by
 rw [plain_7 r hd]
 obtain ⟨d, ht, hg, hrr, K, V, O, lim, ten, qk, qb, rts⟩ := r
 have b1 := wf64 hr.deed
 have b2 := wf64 hr.ht
 have b3 := wf64 hr.lim
 have b4 := wf64 hr.ten
 have b5 := wf8 hr.hr
 have b6 := wf8 hr.rts
 have b7 := wf32 hr.hg
 unfold plD at hd
 dsimp only at hd b1 b2 b3 b4 b5 b6 b7
 obtain ⟨db, db'⟩ := tb_10 d
 have d1 : RowKit.wrap64 (d.tmod 10 + 10) = d.tmod 10 + 10 := by apply wr64; omega
 have d2 := tm_10 d
 rw [show d % 10 = 6 by omega] at d2
 obtain ⟨tb, tb'⟩ := tb_16 ht
 have t1 : RowKit.wrap64 (ht.tmod 16 + 16) = ht.tmod 16 + 16 := by apply wr64; omega
 have t2 := tm_16 ht
 obtain ⟨nb, nb'⟩ := tb_1000000000 ten
 have n1 : RowKit.wrap64 (ten.tmod 1000000000 + 1000000000) = ten.tmod 1000000000 + 1000000000 := by apply wr64; omega
 have n2 := tm_1000000000 ten
 obtain ⟨lb, lb'⟩ := tb_1000000000 lim
 have l1 : RowKit.wrap64 (lim.tmod 1000000000 + 1000000000) = lim.tmod 1000000000 + 1000000000 := by apply wr64; omega
 have l2 := tm_1000000000 lim
 obtain ⟨T, hT⟩ : ∃ T, ht % 16 = T := ⟨_, rfl⟩
 rw [hT] at t2
 have cT : 0 ≤ T := by omega
 have cT' : T < 16 := by omega
 obtain ⟨N, hN⟩ : ∃ N, ten % 1000000000 = N := ⟨_, rfl⟩
 rw [hN] at n2
 have cN : 0 ≤ N := by omega
 have cN' : N < 1000000000 := by omega
 obtain ⟨M, hM⟩ : ∃ M, lim % 1000000000 = M := ⟨_, rfl⟩
 rw [hM] at l2
 have cM : 0 ≤ M := by omega
 have cM' : M < 1000000000 := by omega
 have t3 : RowKit.wrap64 (1 + T) = 1 + T := by apply wr64; omega
 obtain ⟨R, hR⟩ : ∃ R, hrr % 7 = R := ⟨_, rfl⟩
 have r1 : hrr.tmod 7 = R := by rw [Int.tmod_eq_emod_of_nonneg b5.1]; exact hR
 have r2 : IntKind.u8.wrap (1 + R) = 1 + R := wr8 (by omega)
 have r3 : IntKind.u8.wrap R = R := wr8 (by omega)
 obtain ⟨S, hS⟩ : ∃ S, rts % 7 = S := ⟨_, rfl⟩
 have s1 : rts.tmod 7 = S := by rw [Int.tmod_eq_emod_of_nonneg b6.1]; exact hS
 have s2 : IntKind.u8.wrap (1 + S) = 1 + S := wr8 (by omega)
 have s3 : IntKind.u8.wrap S = S := wr8 (by omega)
 unfold reqV
 simp only [reqA, strV, plT, plG, plR, plM, req0, hT, hN, hM, hR, hS]
 have HT := Lib.hid (And.intro hT (And.intro hN (And.intro hM (And.intro hR hS))))
 have HLL := Lib.hid (fun o1 o2 o3 o4 => ((((Later.refl w).alloc o1).alloc o2).alloc o3).alloc o4)
 clear hr hd b1 b2 b3 b4 b5 b6 b7 hT hN hM hR hS
 go_enter Tryz.func27, Tryz.ntmps27
 go_wp2_with fail
 refine bodyPost_ret ?_ rfl ⟨rfl, by first | exact HLL.out _ _ _ _ | exact (HLL.out _ _ _ _).drew⟩
 simp [results, Tryz.results27, go_sem]
set_option maxRecDepth 100000 in
set_option maxHeartbeats 8000000 in
theorem Plain_8 (r : Req) (hr : r.wf) (hd : plD r = 8) (w : World) : Calls Tryz.prog 27 #[reqV r] w fun e w' => e = .returned (reqV (plainR r)) ∧ Later w w' := by
 rw [plain_8 r hd]
 obtain ⟨d, ht, hg, hrr, K, V, O, lim, ten, qk, qb, rts⟩ := r
 have b1 := wf64 hr.deed
 have b2 := wf64 hr.ht
 have b3 := wf64 hr.lim
 have b4 := wf64 hr.ten
 have b5 := wf8 hr.hr
 have b6 := wf8 hr.rts
 have b7 := wf32 hr.hg
 unfold plD at hd
 dsimp only at hd b1 b2 b3 b4 b5 b6 b7
 obtain ⟨db, db'⟩ := tb_10 d
 have d1 : RowKit.wrap64 (d.tmod 10 + 10) = d.tmod 10 + 10 := by apply wr64; omega
 have d2 := tm_10 d
 rw [show d % 10 = 7 by omega] at d2
 obtain ⟨tb, tb'⟩ := tb_16 ht
 have t1 : RowKit.wrap64 (ht.tmod 16 + 16) = ht.tmod 16 + 16 := by apply wr64; omega
 have t2 := tm_16 ht
 obtain ⟨nb, nb'⟩ := tb_1000000000 ten
 have n1 : RowKit.wrap64 (ten.tmod 1000000000 + 1000000000) = ten.tmod 1000000000 + 1000000000 := by apply wr64; omega
 have n2 := tm_1000000000 ten
 obtain ⟨lb, lb'⟩ := tb_1000000000 lim
 have l1 : RowKit.wrap64 (lim.tmod 1000000000 + 1000000000) = lim.tmod 1000000000 + 1000000000 := by apply wr64; omega
 have l2 := tm_1000000000 lim
 obtain ⟨T, hT⟩ : ∃ T, ht % 16 = T := ⟨_, rfl⟩
 rw [hT] at t2
 have cT : 0 ≤ T := by omega
 have cT' : T < 16 := by omega
 obtain ⟨N, hN⟩ : ∃ N, ten % 1000000000 = N := ⟨_, rfl⟩
 rw [hN] at n2
 have cN : 0 ≤ N := by omega
 have cN' : N < 1000000000 := by omega
 obtain ⟨M, hM⟩ : ∃ M, lim % 1000000000 = M := ⟨_, rfl⟩
 rw [hM] at l2
 have cM : 0 ≤ M := by omega
 have cM' : M < 1000000000 := by omega
 have t3 : RowKit.wrap64 (1 + T) = 1 + T := by apply wr64; omega
 obtain ⟨R, hR⟩ : ∃ R, hrr % 7 = R := ⟨_, rfl⟩
 have r1 : hrr.tmod 7 = R := by rw [Int.tmod_eq_emod_of_nonneg b5.1]; exact hR
 have r2 : IntKind.u8.wrap (1 + R) = 1 + R := wr8 (by omega)
 have r3 : IntKind.u8.wrap R = R := wr8 (by omega)
 obtain ⟨S, hS⟩ : ∃ S, rts % 7 = S := ⟨_, rfl⟩
 have s1 : rts.tmod 7 = S := by rw [Int.tmod_eq_emod_of_nonneg b6.1]; exact hS
 have s2 : IntKind.u8.wrap (1 + S) = 1 + S := wr8 (by omega)
 have s3 : IntKind.u8.wrap S = S := wr8 (by omega)
 unfold reqV
 simp only [reqA, strV, plT, plG, plR, plM, req0, hT, hN, hM, hR, hS]
 have HT := Lib.hid (And.intro hT (And.intro hN (And.intro hM (And.intro hR hS))))
 have HLL := Lib.hid (fun o1 o2 o3 o4 => ((((Later.refl w).alloc o1).alloc o2).alloc o3).alloc o4)
 clear hr hd b1 b2 b3 b4 b5 b6 b7 hT hN hM hR hS
 go_enter Tryz.func27, Tryz.ntmps27
 go_wp2_with fail
 refine bodyPost_ret ?_ rfl ⟨rfl, by first | exact HLL.out _ _ _ _ | exact (HLL.out _ _ _ _).drew⟩
 simp [results, Tryz.results27, go_sem]
set_option maxRecDepth 100000 in
set_option maxHeartbeats 8000000 in
theorem Plain_9 (r : Req) (hr : r.wf) (hd : plD r = 9) (w : World) : Calls Tryz.prog 27 #[reqV r] w fun e w' => e = .returned (reqV (plainR r)) ∧ Later w w' := by
 rw [plain_9 r hd]
 obtain ⟨d, ht, hg, hrr, K, V, O, lim, ten, qk, qb, rts⟩ := r
 have b1 := wf64 hr.deed
 have b2 := wf64 hr.ht
 have b3 := wf64 hr.lim
 have b4 := wf64 hr.ten
 have b5 := wf8 hr.hr
 have b6 := wf8 hr.rts
 have b7 := wf32 hr.hg
 unfold plD at hd
 dsimp only at hd b1 b2 b3 b4 b5 b6 b7
 obtain ⟨db, db'⟩ := tb_10 d
 have d1 : RowKit.wrap64 (d.tmod 10 + 10) = d.tmod 10 + 10 := by apply wr64; omega
 have d2 := tm_10 d
 rw [show d % 10 = 8 by omega] at d2
 obtain ⟨tb, tb'⟩ := tb_16 ht
 have t1 : RowKit.wrap64 (ht.tmod 16 + 16) = ht.tmod 16 + 16 := by apply wr64; omega
 have t2 := tm_16 ht
 obtain ⟨nb, nb'⟩ := tb_1000000000 ten
 have n1 : RowKit.wrap64 (ten.tmod 1000000000 + 1000000000) = ten.tmod 1000000000 + 1000000000 := by apply wr64; omega
 have n2 := tm_1000000000 ten
 obtain ⟨lb, lb'⟩ := tb_1000000000 lim
 have l1 : RowKit.wrap64 (lim.tmod 1000000000 + 1000000000) = lim.tmod 1000000000 + 1000000000 := by apply wr64; omega
 have l2 := tm_1000000000 lim
 obtain ⟨T, hT⟩ : ∃ T, ht % 16 = T := ⟨_, rfl⟩
 rw [hT] at t2
 have cT : 0 ≤ T := by omega
 have cT' : T < 16 := by omega
 obtain ⟨N, hN⟩ : ∃ N, ten % 1000000000 = N := ⟨_, rfl⟩
 rw [hN] at n2
 have cN : 0 ≤ N := by omega
 have cN' : N < 1000000000 := by omega
 obtain ⟨M, hM⟩ : ∃ M, lim % 1000000000 = M := ⟨_, rfl⟩
 rw [hM] at l2
 have cM : 0 ≤ M := by omega
 have cM' : M < 1000000000 := by omega
 have t3 : RowKit.wrap64 (1 + T) = 1 + T := by apply wr64; omega
 obtain ⟨R, hR⟩ : ∃ R, hrr % 7 = R := ⟨_, rfl⟩
 have r1 : hrr.tmod 7 = R := by rw [Int.tmod_eq_emod_of_nonneg b5.1]; exact hR
 have r2 : IntKind.u8.wrap (1 + R) = 1 + R := wr8 (by omega)
 have r3 : IntKind.u8.wrap R = R := wr8 (by omega)
 obtain ⟨S, hS⟩ : ∃ S, rts % 7 = S := ⟨_, rfl⟩
 have s1 : rts.tmod 7 = S := by rw [Int.tmod_eq_emod_of_nonneg b6.1]; exact hS
 have s2 : IntKind.u8.wrap (1 + S) = 1 + S := wr8 (by omega)
 have s3 : IntKind.u8.wrap S = S := wr8 (by omega)
 unfold reqV
 simp only [reqA, strV, plT, plG, plR, plM, req0, hT, hN, hM, hR, hS]
 have HT := Lib.hid (And.intro hT (And.intro hN (And.intro hM (And.intro hR hS))))
 have HLL := Lib.hid (fun o1 o2 o3 o4 => ((((Later.refl w).alloc o1).alloc o2).alloc o3).alloc o4)
 clear hr hd b1 b2 b3 b4 b5 b6 b7 hT hN hM hR hS
 go_enter Tryz.func27, Tryz.ntmps27
 go_wp2_with fail
 refine bodyPost_ret ?_ rfl ⟨rfl, by first | exact HLL.out _ _ _ _ | exact (HLL.out _ _ _ _).drew⟩
 simp [results, Tryz.results27, go_sem]
set_option maxRecDepth 100000 in
set_option maxHeartbeats 8000000 in
theorem Plain_10 (r : Req) (hr : r.wf) (hd : plD r = 10) (w : World) : Calls Tryz.prog 27 #[reqV r] w fun e w' => e = .returned (reqV (plainR r)) ∧ Later w w' := by
 rw [plain_10 r hd]
 obtain ⟨d, ht, hg, hrr, K, V, O, lim, ten, qk, qb, rts⟩ := r
 have b1 := wf64 hr.deed
 have b2 := wf64 hr.ht
 have b3 := wf64 hr.lim
 have b4 := wf64 hr.ten
 have b5 := wf8 hr.hr
 have b6 := wf8 hr.rts
 have b7 := wf32 hr.hg
 unfold plD at hd
 dsimp only at hd b1 b2 b3 b4 b5 b6 b7
 obtain ⟨db, db'⟩ := tb_10 d
 have d1 : RowKit.wrap64 (d.tmod 10 + 10) = d.tmod 10 + 10 := by apply wr64; omega
 have d2 := tm_10 d
 rw [show d % 10 = 9 by omega] at d2
 obtain ⟨tb, tb'⟩ := tb_16 ht
 have t1 : RowKit.wrap64 (ht.tmod 16 + 16) = ht.tmod 16 + 16 := by apply wr64; omega
 have t2 := tm_16 ht
 obtain ⟨nb, nb'⟩ := tb_1000000000 ten
 have n1 : RowKit.wrap64 (ten.tmod 1000000000 + 1000000000) = ten.tmod 1000000000 + 1000000000 := by apply wr64; omega
 have n2 := tm_1000000000 ten
 obtain ⟨lb, lb'⟩ := tb_1000000000 lim
 have l1 : RowKit.wrap64 (lim.tmod 1000000000 + 1000000000) = lim.tmod 1000000000 + 1000000000 := by apply wr64; omega
 have l2 := tm_1000000000 lim
 obtain ⟨T, hT⟩ : ∃ T, ht % 16 = T := ⟨_, rfl⟩
 rw [hT] at t2
 have cT : 0 ≤ T := by omega
 have cT' : T < 16 := by omega
 obtain ⟨N, hN⟩ : ∃ N, ten % 1000000000 = N := ⟨_, rfl⟩
 rw [hN] at n2
 have cN : 0 ≤ N := by omega
 have cN' : N < 1000000000 := by omega
 obtain ⟨M, hM⟩ : ∃ M, lim % 1000000000 = M := ⟨_, rfl⟩
 rw [hM] at l2
 have cM : 0 ≤ M := by omega
 have cM' : M < 1000000000 := by omega
 have t3 : RowKit.wrap64 (1 + T) = 1 + T := by apply wr64; omega
 obtain ⟨R, hR⟩ : ∃ R, hrr % 7 = R := ⟨_, rfl⟩
 have r1 : hrr.tmod 7 = R := by rw [Int.tmod_eq_emod_of_nonneg b5.1]; exact hR
 have r2 : IntKind.u8.wrap (1 + R) = 1 + R := wr8 (by omega)
 have r3 : IntKind.u8.wrap R = R := wr8 (by omega)
 obtain ⟨S, hS⟩ : ∃ S, rts % 7 = S := ⟨_, rfl⟩
 have s1 : rts.tmod 7 = S := by rw [Int.tmod_eq_emod_of_nonneg b6.1]; exact hS
 have s2 : IntKind.u8.wrap (1 + S) = 1 + S := wr8 (by omega)
 have s3 : IntKind.u8.wrap S = S := wr8 (by omega)
 unfold reqV
 simp only [reqA, strV, plT, plG, plR, plM, req0, hT, hN, hM, hR, hS]
 have HT := Lib.hid (And.intro hT (And.intro hN (And.intro hM (And.intro hR hS))))
 have HLL := Lib.hid (fun o1 o2 o3 o4 => ((((Later.refl w).alloc o1).alloc o2).alloc o3).alloc o4)
 clear hr hd b1 b2 b3 b4 b5 b6 b7 hT hN hM hR hS
 go_enter Tryz.func27, Tryz.ntmps27
 go_wp2_with fail
 refine bodyPost_ret ?_ rfl ⟨rfl, by first | exact HLL.out _ _ _ _ | exact (HLL.out _ _ _ _).drew⟩
 simp [results, Tryz.results27, go_sem]
theorem plD_range (r : Req) : 1 ≤ plD r ∧ plD r ≤ 10 := by unfold plD; omega
theorem Plain_is (r : Req) (hr : r.wf) (w : World) : Calls Tryz.prog 27 #[reqV r] w fun e w' => e = .returned (reqV (plainR r)) ∧ Later w w' := by
 have h : plD r = 1 ∨ plD r = 2 ∨ plD r = 3 ∨ plD r = 4 ∨ plD r = 5 ∨ plD r = 6 ∨ plD r = 7 ∨ plD r = 8 ∨ plD r = 9 ∨ plD r = 10 := by have := plD_range r; omega
 rcases h with h | h | h | h | h | h | h | h | h | h
 ·exact Plain_1 r hr h w
 ·exact Plain_2 r hr h w
 ·exact Plain_3 r hr h w
 ·exact Plain_4 r hr h w
 ·exact Plain_5 r hr h w
 ·exact Plain_6 r hr h w
 ·exact Plain_7 r hr h w
 ·exact Plain_8 r hr h w
 ·exact Plain_9 r hr h w
 ·exact Plain_10 r hr h w
end Go.Proofs.YtkbedajbbakihaaGreatDoor
