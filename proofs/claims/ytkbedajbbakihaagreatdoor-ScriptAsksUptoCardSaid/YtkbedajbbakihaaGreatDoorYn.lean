/-
 Texts of this proof, put together (Tq3): each part's first words say what it holds. Conditions: as each part says.
-/
import Derived.Test.YtkbedajbbakihaaGreatDoorYk
/-
 The reference's request, walked. Conditions: the words are not too long.
-/
namespace Go.Proofs.YtkbedajbbakihaaGreatDoor
open Go.RowKit Go.Sort Go.Lib
set_option linter.unusedSimpArgs false
set_option linter.unusedVariables false
set_option maxRecDepth 100000 in
set_option maxHeartbeats 32000000 in
theorem refReq_c (v : Value) (w0 : List UInt8) (rest : List (List UInt8)) (w : World) (h : SL w v (w0 :: rest)) (hsm : sumL (w0 :: rest) ≤ 100000000) (hlb : (w0 :: rest).length ≤ 1000000000) (dd : Nat) (hdd : 7 ≤ dd ∧ dd ≤ 11) (hnm : ∀ k : Nat, 1 ≤ k → k ≤ 10 → (nameN k = w0 ↔ k = dd)) :
  Calls Tryz.prog 40 #[v] w (RQE (w0 :: rest) w) := by
 obtain ⟨ao, cap, rfl, hx⟩ := id h
 obtain ⟨X, off, rfl, hc⟩ := hx.resolve_left (by simp)
 obtain ⟨L, hL⟩ : ∃ L, (w0 :: rest).length = L := ⟨_, rfl⟩
 have HCS := Lib.hid (show ∀ W, Later w W → ∀ j, j < (w0 :: rest).length → W.cell? ⟨X, off + j, none⟩ = some (.string ⟨(wrd (w0 :: rest) j).toArray⟩) from fun W hl j hj => cell_at hl (hc j hj) (cell_lt (hc j hj)))
 obtain ⟨V0, hV0⟩ : ∃ V : ByteArray, ⟨w0.toArray⟩ = V := ⟨_, rfl⟩
 have HW0 := Lib.hid (show ∀ W, Later w W → W.cell? ⟨X, off, none⟩ = some (.string V0) from fun W hl => by rw [← hV0]; exact HCS.out W hl 0 (by simp))
 have HNM0 := Lib.hid hnm
 have HDD := Lib.hid hdd
 have HLN := Lib.hid (show rest.length + 1 = L by rw [← hL]; rfl)
 have HLP := Lib.hid (show 0 < L by rw [← hL]; simp)
 rw [hL] at hlb ⊢
 have HLB := Lib.hid hlb
 have HSM := Lib.hid hsm
 have HV0 := Lib.hid hV0
 have hq0 : RQ w (reqA req0) ((w.alloc (.cells (reqA req0) 39)).alloc (.cells (reqA req0) 39)) := by
  have h1 := (MapKept.heap_alloc w (.cells (reqA req0) 39)).1
  have h2 := (MapKept.heap_alloc (w.alloc (.cells (reqA req0) 39)) (.cells (reqA req0) 39)).1
  have hs : (w.alloc (.cells (reqA req0) 39)).heap.size = w.heap.size + 1 := by show (w.heap.push _).size = _; simp
  rw [hs] at h2
  exact ⟨((Later.refl w).alloc _).alloc _, by show w.heap.size + 2 ≤ ((w.heap.push _).push _).size; simp, (((Later.refl _).alloc _).block _ (Array.getElem?_eq_some_iff.1 h1).1).trans h1, h2⟩
 have HQ0 := Lib.hid hq0
 clear h hx hc hL hnm hlb hsm hV0 hq0 hdd
 go_enter Tryz.func40, Tryz.ntmps40
 go_wp2_with fail
 go_loopw [5] (fun i wr => ∃ (k : Nat) (D : Int), 1 ≤ k ∧ k ≤ 11 ∧ i = .int .i64 k ∧ ((D = 0 ∧ k ≤ dd) ∨ (D = (dd : Int) ∧ dd < k)) ∧ RQ w (reqA { req0 with deed := D }) wr) (fun i _ => 11 - (RowKit.intOf i).toNat)
 case atStart => exact ⟨1, 0, by omega, by omega, rfl, .inl ⟨rfl, by have := HDD.out; omega⟩, HQ0.out⟩
 case round =>
  obtain ⟨k, D, hk1, hk11, rfl, hD, hq⟩ := hrel
  rename World => wk
  have HQ := Lib.hid hq
  have HD := Lib.hid hD
  clear hq hD HQ0
  by_cases hle : k ≤ 10
  ·have d0 : decide ((k : Int) ≤ 10) = true := decide_eq_true (by omega)
   have HK10 := Lib.hid (And.intro hk1 hle)
   obtain ⟨Nm, hNm⟩ : ∃ N : ByteArray, ⟨(nameN k).toArray⟩ = N := ⟨_, rfl⟩
   have HNM := Lib.hid (show (wsC namesL).toArray[k]? = some (.string Nm) by rw [← hNm]; exact names_at k ⟨hk1, hle⟩)
   obtain ⟨b, hb⟩ : ∃ b, (Nm.toList == V0.toList) = b := ⟨_, rfl⟩
   have HCM := Lib.hid (show (Nm.toList == V0.toList) = b ∧ (b = true ↔ k = dd) from ⟨hb, by
    rw [← HNM0.out k hk1 hle, ← hb, ← hNm, ← HV0.out, ByteArray.toList_mk, ByteArray.toList_mk]
    simp⟩)
   clear hNm hb
   go_wp2_with fail
   refine wp_region_iv mixedW (fun D' a' W' => ∃ x0 x1 x2 x3 x4 x5 x6 x7, a' = ⟨#[Value.slice (some { block := X, off := off }) L cap, undef, Value.pointer (some { block := w.heap.size, off := 0 }), Value.bool false, Value.pointer (some { block := w.heap.size + 1, off := 0 }), Value.int IntKind.i64 ↑k, undef, undef, undef, undef, undef, undef, undef, undef, undef, undef, undef, undef, undef, undef, undef, undef, undef, undef, undef, Value.int IntKind.i64 ↑k, Value.bool true, u27, u28, x0, x1, x2, x3, x4, x5, x6, x7, u37, u38, undef, undef, undef, undef, undef, undef, undef, undef, undef, undef, undef, undef, undef, undef, undef, undef, undef, undef, undef, undef, undef, undef, undef, undef, undef, undef, undef, undef, undef, undef, undef, undef, undef, undef, undef, undef, undef, undef, undef, undef, undef, undef, undef, undef, undef, undef, undef, undef, undef, undef, undef, undef, undef, undef, undef, undef, undef, undef, undef, undef, undef, undef, undef, undef, undef, undef, undef, undef, undef, undef, undef, undef, undef, undef, undef, undef, undef, undef, undef, undef, undef, undef, undef, undef, undef, undef, undef, undef, undef, undef, undef, undef, undef, undef, undef, undef, undef, undef, undef, undef, undef, undef, undef, undef, undef, undef, undef, undef, undef, undef, undef, undef, undef, undef, undef, undef, undef, undef, undef, undef, undef, undef, undef, undef, undef, undef, undef, undef, undef, undef, undef, undef, undef, undef, undef, undef, undef, undef, undef, undef, undef, undef, undef, undef, undef, undef, undef, undef, undef, undef, undef, undef, undef, undef, undef, undef, undef, undef, undef, undef], []⟩ ∧ (Later wk W') ∧ (D' 0 = true → ∃ Z, x0 = .slice (some ⟨Z, 0, none⟩) 11 11 ∧ W'.heap[Z]? = some (.cells (wsC namesL).toArray 9 (0, 0))) ∧ (D' 2 = true → ∃ Z, x2 = .pointer (some ⟨Z, k, none⟩) ∧ W'.heap[Z]? = some (.cells (wsC namesL).toArray 9 (0, 0))) ∧ (D' 1 = true → x1 = .int .i64 (k : Int)) ∧ (D' 3 = true → x3 = .string Nm) ∧ (D' 4 = true → x4 = .slice (some ⟨X, off, none⟩) L cap) ∧ (D' 5 = true → x5 = .pointer (some ⟨X, off, none⟩)) ∧ (D' 6 = true → x6 = .string V0) ∧ (D' 7 = true → x7 = .bool b)) (by kernel_rfl) ?_ ?_ ?_
   ·exact ⟨_, _, _, _, _, _, _, _, rfl, (Later.refl wk).drew, (fun h => by cases h), (fun h => by cases h), (fun h => by cases h), (fun h => by cases h), (fun h => by cases h), (fun h => by cases h), (fun h => by cases h), (fun h => by cases h)⟩
   ·intro i D' a' W' hi hDi hdep hcl hI
    obtain ⟨x0, x1, x2, x3, x4, x5, x6, x7, rfl, gL, gN, gP, f1, f3, f4, f5, f6, f7⟩ := hI
    have hi' : i = 0 ∨ i = 1 ∨ i = 2 ∨ i = 3 ∨ i = 4 ∨ i = 5 ∨ i = 6 ∨ i = 7 := by
     have : i < 8 := hi
     omega
    rcases hi' with rfl | rfl | rfl | rfl | rfl | rfl | rfl | rfl
    ·have h2 := hcl.no hDi (k := 2) (by decide) (by kernel_rfl)
     refine wpOp_step rfl (fun K' hK' => ?_)
     rw [if_pos (by rfl)]
     go_simp
     refine (refNames_is W').mono ?_
     rintro y8 w8 ⟨rfl, hw8⟩
     have hl1 : Later W' w8 := by rw [hw8]; exact (Later.refl W').alloc _
     have hz : w8.heap[W'.heap.size]? = some (.cells (wsC namesL).toArray 9 (0, 0)) := by rw [hw8]; exact (MapKept.heap_alloc W' _).1
     exact hK' _ _ ⟨_, x1, x2, x3, x4, x5, x6, x7, rfl, (gL.trans hl1), (fun _ => ⟨_, rfl, hz⟩), (fun h => absurd (show D' 2 = true from h) (by rw [h2]; decide)), f1, f3, f4, f5, f6, f7⟩
    ·skip
     refine wpOp_step rfl (fun K' hK' => ?_)
     rw [if_pos (by rfl)]
     go_simp
     exact hK' _ _ ⟨x0, _, x2, x3, x4, x5, x6, x7, rfl, gL, gN, gP, (fun _ => rfl), f3, f4, f5, f6, f7⟩
    ·obtain ⟨Z, qZ, hZ⟩ := gN (hdep 0 (by kernel_rfl))
     subst qZ
     have q1 := f1 (hdep 1 (by kernel_rfl))
     subst q1
     have hd11 : (k : Int) < 11 := by have := HK10.out; omega
     refine wpOp_step rfl (fun K' hK' => ?_)
     rw [if_pos (by rfl)]
     go_simp
     exact hK' _ _ ⟨_, _, _, x3, x4, x5, x6, x7, rfl, gL, (fun _ => ⟨Z, rfl, hZ⟩), (fun _ => ⟨Z, rfl, hZ⟩), (fun _ => rfl), f3, f4, f5, f6, f7⟩
    ·obtain ⟨Z, qZ, hZ⟩ := gP (hdep 2 (by kernel_rfl))
     subst qZ
     have hc : W'.cell? ⟨Z, k, none⟩ = some (.string Nm) := by rw [Lib.cell_of_heap hZ]; exact HNM.out
     refine wpOp_step rfl (fun K' hK' => ?_)
     rw [if_pos (by rfl)]
     go_simp
     exact hK' _ _ ⟨x0, x1, _, _, x4, x5, x6, x7, rfl, gL, gN, (fun _ => ⟨Z, rfl, hZ⟩), f1, (fun _ => rfl), f4, f5, f6, f7⟩
    ·skip
     refine wpOp_step rfl (fun K' hK' => ?_)
     rw [if_pos (by rfl)]
     go_simp
     exact hK' _ _ ⟨x0, x1, x2, x3, _, x5, x6, x7, rfl, gL, gN, gP, f1, f3, (fun _ => rfl), f5, f6, f7⟩
    ·have q4 := f4 (hdep 4 (by kernel_rfl))
     subst q4
     have hL1 : (0 : Int) < (L : Int) := by have := HLP.out; omega
     have hL2 : 0 < L := HLP.out
     refine wpOp_step rfl (fun K' hK' => ?_)
     rw [if_pos (by rfl)]
     go_simp
     exact hK' _ _ ⟨x0, x1, x2, x3, _, _, x6, x7, rfl, gL, gN, gP, f1, f3, (fun _ => rfl), (fun _ => rfl), f6, f7⟩
    ·have q5 := f5 (hdep 5 (by kernel_rfl))
     subst q5
     have hc : W'.cell? ⟨X, off, none⟩ = some (.string V0) := HW0.out W' (HQ.out.later.trans gL)
     refine wpOp_step rfl (fun K' hK' => ?_)
     rw [if_pos (by rfl)]
     go_simp
     exact hK' _ _ ⟨x0, x1, x2, x3, x4, _, _, x7, rfl, gL, gN, gP, f1, f3, f4, (fun _ => rfl), (fun _ => rfl), f7⟩
    ·have q3 := f3 (hdep 3 (by kernel_rfl))
     have q6 := f6 (hdep 6 (by kernel_rfl))
     subst q3
     subst q6
     have hcm := HCM.out.1
     refine wpOp_step rfl (fun K' hK' => ?_)
     rw [if_pos (by rfl)]
     go_simp
     exact hK' _ _ ⟨x0, x1, x2, _, x4, x5, _, _, rfl, gL, gN, gP, f1, (fun _ => rfl), f4, f5, (fun _ => rfl), (fun _ => rfl)⟩
   ·rintro D' a' W' hD' ⟨x0, x1, x2, x3, x4, x5, x6, x7, rfl, gL, gN, gP, f1, f3, f4, f5, f6, f7⟩
    have q7 := f7 (hD' 7 (by decide))
    subst q7
    have HGL := Lib.hid gL
    clear gL gN gP f1 f3 f4 f5 f6 f7
    have HQ1 := Lib.hid (HQ.out.after HGL.out)
    have c0 : W'.cell? ⟨w.heap.size + 1, 0, none⟩ = some (.int .i64 D) := by rw [Lib.cell_of_heap HQ1.out.row]; rfl
    have f0 : W'.frozen? ⟨w.heap.size + 1, 0, none⟩ = false := Lib.frozen_of_heap HQ1.out.row 0
    cases b with
    | true =>
     have HKD := Lib.hid (HCM.out.2.1 rfl)
     have HREL := Lib.hid (show RQ w (reqA { req0 with deed := (k : Int) }) (W'.setCell ⟨w.heap.size + 1, 0, none⟩ (.int .i64 (k : Int))) from HQ1.out.set 0 (.int .i64 (k : Int)))
     go_wp2_with fail
     go_roundw
     case rel => exact ⟨k + 1, k, by omega, by omega, by go_num, .inr (by have := HKD.out; omega), HREL.out⟩
     case measure => simp [RowKit.intOf]; omega
    | false =>
     have HKD := Lib.hid (show k ≠ dd from fun h => by have := HCM.out.2.2 h; cases this)
     go_wp2_with fail
     go_roundw
     case rel => exact ⟨k + 1, D, by omega, by omega, by go_num, by have h1 := HD.out; have h2 := HKD.out; omega, HQ1.out⟩
     case measure => simp [RowKit.intOf]; omega
  ·have d0 : decide ((k : Int) ≤ 10) = false := decide_eq_false (by omega)
   by_cases h11 : dd = 11
   ·have hDd : D = 0 := by have := HD.out; omega
    subst hDd
    subst h11
    clear HD hk1 hk11
    obtain ⟨q, hq⟩ : ∃ q : Nat, L = q + 1 := ⟨L - 1, by have := HLP.out; omega⟩
    have a1 : IntKind.i64.wrap ((L : Int) - 1) = (q : Int) := by
     rw [show (L : Int) - 1 = (q : Int) by omega]
     exact IntWalk.i64_in _ (by have := HLB.out; omega)
    have HRD := Lib.hid (show readR (w0 :: rest) = none from readR_no (fun k h1 h2 h3 => by have := (HNM0.out k h1 h2).1 h3; omega))
    clear hq
    go_upto_region 9 with fail
    obtain ⟨U1, hU1⟩ : ∃ U, wk.alloc (.cells #[.int .i64 (-1), .int .i64 2, .int .i64 3, .int .i64 2, .int .i64 4, .int .i64 3, .int .i64 1, .int .i64 3, .int .i64 1, .int .i64 2, .int .i64 1] 3) = U := ⟨_, rfl⟩
    have hk1 : U1.heap[wk.heap.size]? = some (.cells #[.int .i64 (-1), .int .i64 2, .int .i64 3, .int .i64 2, .int .i64 4, .int .i64 3, .int .i64 1, .int .i64 3, .int .i64 1, .int .i64 2, .int .i64 1] 3 (0, 0)) := by rw [← hU1]; exact (MapKept.heap_alloc _ _).1
    have HQ1 := Lib.hid (show RQ w _ U1 by rw [← hU1]; exact HQ.out.after ((Later.refl _).alloc _))
    rw [hU1]
    have c2 : U1.cell? ⟨w.heap.size + 1, 0, none⟩ = some (.int .i64 0) := by rw [Lib.cell_of_heap HQ1.out.row]; rfl
    go_upto_region 10 with fail
    obtain ⟨A, hA⟩ := RQ.done (r := ({ req0 with deed := 0 } : Req)) HQ1.out
    have HA := Lib.hid hA
    have HF := Lib.hid (hA.fin (RQP.no _ HRD.out))
    obtain ⟨a0, a1, a2, a3, a4, a5, a6, a7, a8, a9, a10, a11⟩ := req_cells hA.row
    clear hA
    clear hU1 hk1 c2
    go_wp2_with (first | (refine wpList_load_mid rfl 39 (.tmp 4) rfl (w.heap.size + 1) 0 rfl A.toList _ HA.out.rg Tryz.underlying39 rfl HA.out.al ?_; rw [Array.toArray_toList]) | (refine wpList_store_rowTo rfl 39 (.tmp 2) (.tmp 55) rfl rfl w.heap.size A rfl rfl 39 (reqA req0) HA.out.res HA.out.sz HA.out.az HA.out.ao ?_))
    refine bodyPost_ret ?_ rfl HF.out
    simp [results, Tryz.results40, go_sem, a0, a1, a2, a3, a4, a5, a6, a7, a8, a9, a10, a11, reqV, reqA, req0]
   ·have hd1 : 1 ≤ dd := by have := HDD.out; omega
    have hd10 : dd ≤ 10 := by have := HDD.out; omega
    have hDd : D = (dd : Int) := by have := HD.out; omega
    subst hDd
    clear HD hk1 hk11
    have HNW := Lib.hid ((HNM0.out dd hd1 hd10).2 rfl)
    obtain ⟨m, hm⟩ : ∃ m, (fldsN dd).length = m := ⟨_, rfl⟩
    by_cases hLm : L = m + 1
    ·have hds : dd = 7 ∨ dd = 8 ∨ dd = 9 ∨ dd = 10 := by have := HDD.out; omega
     rcases hds with rfl | rfl | rfl | rfl
     ·have hL4 : L = 4 := by rw [hLm, ← hm]; rfl
      subst hL4
      clear hLm hm hd1 hd10
      obtain ⟨t1, t2, t3, hrest⟩ := list3 rest (by have := HLN.out; omega)
      subst hrest
      obtain ⟨V1, hV1⟩ : ∃ V : ByteArray, ⟨t1.toArray⟩ = V := ⟨_, rfl⟩
      have HW1 := Lib.hid (show ∀ W, Later w W → W.cell? ⟨X, off + 1, none⟩ = some (.string V1) from fun W hl => by rw [← hV1]; exact HCS.out W hl 1 (by simp))
      have hd1 : V1.data.toList = t1 := by rw [← hV1]
      have hs1 : V1.size ≤ 100000000 := by rw [← hV1, size_mk]; have := HSM.out; simp [sumL] at this; omega
      clear hV1
      obtain ⟨V2, hV2⟩ : ∃ V : ByteArray, ⟨t2.toArray⟩ = V := ⟨_, rfl⟩
      have HW2 := Lib.hid (show ∀ W, Later w W → W.cell? ⟨X, off + 2, none⟩ = some (.string V2) from fun W hl => by rw [← hV2]; exact HCS.out W hl 2 (by simp))
      have hd2 : V2.data.toList = t2 := by rw [← hV2]
      have hs2 : V2.size ≤ 100000000 := by rw [← hV2, size_mk]; have := HSM.out; simp [sumL] at this; omega
      clear hV2
      obtain ⟨V3, hV3⟩ : ∃ V : ByteArray, ⟨t3.toArray⟩ = V := ⟨_, rfl⟩
      have HW3 := Lib.hid (show ∀ W, Later w W → W.cell? ⟨X, off + 3, none⟩ = some (.string V3) from fun W hl => by rw [← hV3]; exact HCS.out W hl 3 (by simp))
      have hd3 : V3.data.toList = t3 := by rw [← hV3]
      have hs3 : V3.size ≤ 100000000 := by rw [← hV3, size_mk]; have := HSM.out; simp [sumL] at this; omega
      clear hV3
      have HC1 := Lib.hid (fun W => rNum hd1 (by omega) W)
      have HC2 := Lib.hid (fun W => rLrg hd2 (by omega) W)
      have HC3 := Lib.hid (fun W => rLrg hd3 (by omega) W)
      clear hd1 hs1 hd2 hs2 hd3 hs3
      go_upto_region 9 with fail
      obtain ⟨U1, hU1⟩ : ∃ U, wk.alloc (.cells #[.int .i64 (-1), .int .i64 2, .int .i64 3, .int .i64 2, .int .i64 4, .int .i64 3, .int .i64 1, .int .i64 3, .int .i64 1, .int .i64 2, .int .i64 1] 3) = U := ⟨_, rfl⟩
      have hk1 : U1.heap[wk.heap.size]? = some (.cells #[.int .i64 (-1), .int .i64 2, .int .i64 3, .int .i64 2, .int .i64 4, .int .i64 3, .int .i64 1, .int .i64 3, .int .i64 1, .int .i64 2, .int .i64 1] 3 (0, 0)) := by rw [← hU1]; exact (MapKept.heap_alloc _ _).1
      have HQ1 := Lib.hid (show RQ w _ U1 by rw [← hU1]; exact HQ.out.after ((Later.refl _).alloc _))
      rw [hU1]
      have hcm : U1.cell? ⟨wk.heap.size, 7, none⟩ = some (.int .i64 3) := by rw [Lib.cell_of_heap hk1]; rfl
      have c2 : U1.cell? ⟨w.heap.size + 1, 0, none⟩ = some (.int .i64 7) := by rw [Lib.cell_of_heap HQ1.out.row]; rfl
      obtain ⟨x1, hx1⟩ : ∃ x, (num t1).getD (-1) = x := ⟨_, rfl⟩
      obtain ⟨b1, hb1⟩ : ∃ b, decide ((0 : Int) ≤ x1) = b := ⟨_, rfl⟩
      rw [hx1] at HC1
      have v3 := HW1.out U1 HQ1.out.later
      go_wp2_with fail
      refine (HC1.out U1).mono ?_
      rintro y4 w4 ⟨rfl, hl4⟩
      have HQ4 := Lib.hid (HQ1.out.after hl4)
      clear hU1 hk1 hcm c2 v3 hl4
      have c5 : w4.cell? ⟨w.heap.size + 1, 8, none⟩ = some (.int .i64 0) := by rw [Lib.cell_of_heap HQ4.out.row]; rfl
      have z6 : w4.frozen? ⟨w.heap.size + 1, 8, none⟩ = false := Lib.frozen_of_heap HQ4.out.row 8
      go_upto_region 13 with fail
      obtain ⟨U7, hU7⟩ : ∃ U, (w4.setCell ⟨w.heap.size + 1, 8, none⟩ (.int .i64 x1)) = U := ⟨_, rfl⟩
      have HQ7 := Lib.hid (show RQ w (reqA ({ req0 with deed := 7, ten := x1 } : Req)) U7 by rw [← hU7]; exact (HQ4.out.set 8 (.int .i64 x1)))
      rw [hU7]
      clear c5 z6 hU7
      have c8 : U7.cell? ⟨w.heap.size + 1, 8, none⟩ = some (.int .i64 x1) := by rw [Lib.cell_of_heap HQ7.out.row]; rfl
      have c9 : U7.cell? ⟨w.heap.size + 1, 0, none⟩ = some (.int .i64 7) := by rw [Lib.cell_of_heap HQ7.out.row]; rfl
      obtain ⟨n2, hn2⟩ : ∃ n : Int, (((lrg t2).getD 0 : Nat) : Int) = n := ⟨_, rfl⟩
      obtain ⟨b2, hb2⟩ : ∃ b, (lrg t2).isSome = b := ⟨_, rfl⟩
      rw [hn2, hb2] at HC2
      obtain ⟨n3, hn3⟩ : ∃ n : Int, (((lrg t3).getD 0 : Nat) : Int) = n := ⟨_, rfl⟩
      obtain ⟨b3, hb3⟩ : ∃ b, (lrg t3).isSome = b := ⟨_, rfl⟩
      rw [hn3, hb3] at HC3
      have v10 := HW2.out U7 HQ7.out.later
      go_wp2_with fail
      refine (HC2.out U7).mono ?_
      rintro y11 w11 ⟨rfl, hl11⟩
      have HQ11 := Lib.hid (HQ7.out.after hl11)
      clear c8 c9 v10 hl11
      have v12 := HW3.out w11 HQ11.out.later
      go_wp2_with fail
      refine (HC3.out w11).mono ?_
      rintro y13 w13 ⟨rfl, hl13⟩
      have HQ13 := Lib.hid (HQ11.out.after hl13)
      clear v12 hl13
      have c14 : w13.cell? ⟨w.heap.size + 1, 9, none⟩ = some (.int .u64 0) := by rw [Lib.cell_of_heap HQ13.out.row]; rfl
      have c15 : w13.cell? ⟨w.heap.size + 1, 10, none⟩ = some (.int .u64 0) := by rw [Lib.cell_of_heap HQ13.out.row]; rfl
      have z16 : w13.frozen? ⟨w.heap.size + 1, 9, none⟩ = false := Lib.frozen_of_heap HQ13.out.row 9
      have z17 : w13.frozen? ⟨w.heap.size + 1, 10, none⟩ = false := Lib.frozen_of_heap HQ13.out.row 10
      go_upto_region 18 with fail
      obtain ⟨U18, hU18⟩ : ∃ U, ((w13.setCell ⟨w.heap.size + 1, 9, none⟩ (.int .u64 n2)).setCell ⟨w.heap.size + 1, 10, none⟩ (.int .u64 n3)) = U := ⟨_, rfl⟩
      have HQ18 := Lib.hid (show RQ w (reqA ({ req0 with deed := 7, ten := x1, qk := n2, qb := n3 } : Req)) U18 by rw [← hU18]; exact ((HQ13.out.set 9 (.int .u64 n2)).set 10 (.int .u64 n3)))
      rw [hU18]
      clear c14 c15 z16 z17 hU18
      have c19 : U18.cell? ⟨w.heap.size + 1, 0, none⟩ = some (.int .i64 7) := by rw [Lib.cell_of_heap HQ18.out.row]; rfl
      obtain ⟨A, hA⟩ := RQ.done (r := ({ req0 with deed := 7, ten := x1, qk := n2, qb := n3 } : Req)) HQ18.out
      have HA := Lib.hid hA
      have HF := Lib.hid (hA.fin (show RQP [w0, t1, t2, t3] ({ req0 with deed := 7, ten := x1, qk := n2, qb := n3 } : Req) (b1 && b2 && b3) by rw [← hb1]; rw [← hx1]; rw [← hn2]; rw [← hn3]; rw [← hb2]; rw [← hb3]; exact rqP7 HNW.out))
      obtain ⟨a0, a1, a2, a3, a4, a5, a6, a7, a8, a9, a10, a11⟩ := req_cells hA.row
      clear hA
      cases b1 <;> cases b2 <;> cases b3
      all_goals go_upto_region 23 with fail
      all_goals clear c19
      all_goals
       go_wp2_with (first | (refine wpList_load_mid rfl 39 (.tmp 4) rfl (w.heap.size + 1) 0 rfl A.toList _ HA.out.rg Tryz.underlying39 rfl HA.out.al ?_; rw [Array.toArray_toList]) | (refine wpList_store_rowTo rfl 39 (.tmp 2) (.tmp 114) rfl rfl w.heap.size A rfl rfl 39 (reqA req0) HA.out.res HA.out.sz HA.out.az HA.out.ao ?_))
       refine bodyPost_ret ?_ rfl HF.out
       simp [results, Tryz.results40, go_sem, a0, a1, a2, a3, a4, a5, a6, a7, a8, a9, a10, a11, reqV, reqA, req0]
     ·have hL4 : L = 2 := by rw [hLm, ← hm]; rfl
      subst hL4
      clear hLm hm hd1 hd10
      obtain ⟨t1, hrest⟩ := list1 rest (by have := HLN.out; omega)
      subst hrest
      obtain ⟨V1, hV1⟩ : ∃ V : ByteArray, ⟨t1.toArray⟩ = V := ⟨_, rfl⟩
      have HW1 := Lib.hid (show ∀ W, Later w W → W.cell? ⟨X, off + 1, none⟩ = some (.string V1) from fun W hl => by rw [← hV1]; exact HCS.out W hl 1 (by simp))
      have hd1 : V1.data.toList = t1 := by rw [← hV1]
      have hs1 : V1.size ≤ 100000000 := by rw [← hV1, size_mk]; have := HSM.out; simp [sumL] at this; omega
      clear hV1
      have HC1 := Lib.hid (fun W => rNum hd1 (by omega) W)
      clear hd1 hs1
      go_upto_region 9 with fail
      obtain ⟨U1, hU1⟩ : ∃ U, wk.alloc (.cells #[.int .i64 (-1), .int .i64 2, .int .i64 3, .int .i64 2, .int .i64 4, .int .i64 3, .int .i64 1, .int .i64 3, .int .i64 1, .int .i64 2, .int .i64 1] 3) = U := ⟨_, rfl⟩
      have hk1 : U1.heap[wk.heap.size]? = some (.cells #[.int .i64 (-1), .int .i64 2, .int .i64 3, .int .i64 2, .int .i64 4, .int .i64 3, .int .i64 1, .int .i64 3, .int .i64 1, .int .i64 2, .int .i64 1] 3 (0, 0)) := by rw [← hU1]; exact (MapKept.heap_alloc _ _).1
      have HQ1 := Lib.hid (show RQ w _ U1 by rw [← hU1]; exact HQ.out.after ((Later.refl _).alloc _))
      rw [hU1]
      have hcm : U1.cell? ⟨wk.heap.size, 8, none⟩ = some (.int .i64 1) := by rw [Lib.cell_of_heap hk1]; rfl
      have c2 : U1.cell? ⟨w.heap.size + 1, 0, none⟩ = some (.int .i64 8) := by rw [Lib.cell_of_heap HQ1.out.row]; rfl
      obtain ⟨x1, hx1⟩ : ∃ x, (num t1).getD (-1) = x := ⟨_, rfl⟩
      obtain ⟨b1, hb1⟩ : ∃ b, decide ((0 : Int) ≤ x1) = b := ⟨_, rfl⟩
      rw [hx1] at HC1
      have v3 := HW1.out U1 HQ1.out.later
      go_wp2_with fail
      refine (HC1.out U1).mono ?_
      rintro y4 w4 ⟨rfl, hl4⟩
      have HQ4 := Lib.hid (HQ1.out.after hl4)
      clear hU1 hk1 hcm c2 v3 hl4
      have c5 : w4.cell? ⟨w.heap.size + 1, 8, none⟩ = some (.int .i64 0) := by rw [Lib.cell_of_heap HQ4.out.row]; rfl
      have z6 : w4.frozen? ⟨w.heap.size + 1, 8, none⟩ = false := Lib.frozen_of_heap HQ4.out.row 8
      go_upto_region 13 with fail
      obtain ⟨U7, hU7⟩ : ∃ U, (w4.setCell ⟨w.heap.size + 1, 8, none⟩ (.int .i64 x1)) = U := ⟨_, rfl⟩
      have HQ7 := Lib.hid (show RQ w (reqA ({ req0 with deed := 8, ten := x1 } : Req)) U7 by rw [← hU7]; exact (HQ4.out.set 8 (.int .i64 x1)))
      rw [hU7]
      clear c5 z6 hU7
      have c8 : U7.cell? ⟨w.heap.size + 1, 8, none⟩ = some (.int .i64 x1) := by rw [Lib.cell_of_heap HQ7.out.row]; rfl
      have c9 : U7.cell? ⟨w.heap.size + 1, 0, none⟩ = some (.int .i64 8) := by rw [Lib.cell_of_heap HQ7.out.row]; rfl
      obtain ⟨A, hA⟩ := RQ.done (r := ({ req0 with deed := 8, ten := x1 } : Req)) HQ7.out
      have HA := Lib.hid hA
      have HF := Lib.hid (hA.fin (show RQP [w0, t1] ({ req0 with deed := 8, ten := x1 } : Req) (b1) by rw [← hb1]; rw [← hx1]; exact rqP8 HNW.out))
      obtain ⟨a0, a1, a2, a3, a4, a5, a6, a7, a8, a9, a10, a11⟩ := req_cells hA.row
      clear hA
      cases b1
      all_goals go_upto_region 23 with fail
      all_goals clear c8 c9
      all_goals
       go_wp2_with (first | (refine wpList_load_mid rfl 39 (.tmp 4) rfl (w.heap.size + 1) 0 rfl A.toList _ HA.out.rg Tryz.underlying39 rfl HA.out.al ?_; rw [Array.toArray_toList]) | (refine wpList_store_rowTo rfl 39 (.tmp 2) (.tmp 114) rfl rfl w.heap.size A rfl rfl 39 (reqA req0) HA.out.res HA.out.sz HA.out.az HA.out.ao ?_))
       refine bodyPost_ret ?_ rfl HF.out
       simp [results, Tryz.results40, go_sem, a0, a1, a2, a3, a4, a5, a6, a7, a8, a9, a10, a11, reqV, reqA, req0]
     ·have hL4 : L = 3 := by rw [hLm, ← hm]; rfl
      subst hL4
      clear hLm hm hd1 hd10
      obtain ⟨t1, t2, hrest⟩ := list2 rest (by have := HLN.out; omega)
      subst hrest
      obtain ⟨V1, hV1⟩ : ∃ V : ByteArray, ⟨t1.toArray⟩ = V := ⟨_, rfl⟩
      have HW1 := Lib.hid (show ∀ W, Later w W → W.cell? ⟨X, off + 1, none⟩ = some (.string V1) from fun W hl => by rw [← hV1]; exact HCS.out W hl 1 (by simp))
      have hd1 : V1.data.toList = t1 := by rw [← hV1]
      have hs1 : V1.size ≤ 100000000 := by rw [← hV1, size_mk]; have := HSM.out; simp [sumL] at this; omega
      clear hV1
      obtain ⟨V2, hV2⟩ : ∃ V : ByteArray, ⟨t2.toArray⟩ = V := ⟨_, rfl⟩
      have HW2 := Lib.hid (show ∀ W, Later w W → W.cell? ⟨X, off + 2, none⟩ = some (.string V2) from fun W hl => by rw [← hV2]; exact HCS.out W hl 2 (by simp))
      have hd2 : V2.data.toList = t2 := by rw [← hV2]
      have hs2 : V2.size ≤ 100000000 := by rw [← hV2, size_mk]; have := HSM.out; simp [sumL] at this; omega
      clear hV2
      have HC1 := Lib.hid (fun W => rNum hd1 (by omega) W)
      have HC2 := Lib.hid (fun W => rRd (V := ⟨#[49, 46, 49, 46]⟩ ++ V2) (v := 49 :: 46 :: 49 :: 46 :: t2) (by simp [hd2]) (by rw [ByteArray.size_append]; have h : ByteArray.size ⟨#[49, 46, 49, 46]⟩ = 4 := rfl; omega) W)
      have hcat : ¬ 9223372036854775807 < 4 + V2.size := by omega
      clear hd1 hs1 hd2 hs2
      go_upto_region 9 with fail
      obtain ⟨U1, hU1⟩ : ∃ U, wk.alloc (.cells #[.int .i64 (-1), .int .i64 2, .int .i64 3, .int .i64 2, .int .i64 4, .int .i64 3, .int .i64 1, .int .i64 3, .int .i64 1, .int .i64 2, .int .i64 1] 3) = U := ⟨_, rfl⟩
      have hk1 : U1.heap[wk.heap.size]? = some (.cells #[.int .i64 (-1), .int .i64 2, .int .i64 3, .int .i64 2, .int .i64 4, .int .i64 3, .int .i64 1, .int .i64 3, .int .i64 1, .int .i64 2, .int .i64 1] 3 (0, 0)) := by rw [← hU1]; exact (MapKept.heap_alloc _ _).1
      have HQ1 := Lib.hid (show RQ w _ U1 by rw [← hU1]; exact HQ.out.after ((Later.refl _).alloc _))
      rw [hU1]
      have hcm : U1.cell? ⟨wk.heap.size, 9, none⟩ = some (.int .i64 2) := by rw [Lib.cell_of_heap hk1]; rfl
      have c2 : U1.cell? ⟨w.heap.size + 1, 0, none⟩ = some (.int .i64 9) := by rw [Lib.cell_of_heap HQ1.out.row]; rfl
      obtain ⟨x1, hx1⟩ : ∃ x, (num t1).getD (-1) = x := ⟨_, rfl⟩
      obtain ⟨b1, hb1⟩ : ∃ b, decide ((0 : Int) ≤ x1) = b := ⟨_, rfl⟩
      rw [hx1] at HC1
      have v3 := HW1.out U1 HQ1.out.later
      go_wp2_with fail
      refine (HC1.out U1).mono ?_
      rintro y4 w4 ⟨rfl, hl4⟩
      have HQ4 := Lib.hid (HQ1.out.after hl4)
      clear hU1 hk1 hcm c2 v3 hl4
      have c5 : w4.cell? ⟨w.heap.size + 1, 8, none⟩ = some (.int .i64 0) := by rw [Lib.cell_of_heap HQ4.out.row]; rfl
      have z6 : w4.frozen? ⟨w.heap.size + 1, 8, none⟩ = false := Lib.frozen_of_heap HQ4.out.row 8
      go_upto_region 13 with fail
      obtain ⟨U7, hU7⟩ : ∃ U, (w4.setCell ⟨w.heap.size + 1, 8, none⟩ (.int .i64 x1)) = U := ⟨_, rfl⟩
      have HQ7 := Lib.hid (show RQ w (reqA ({ req0 with deed := 9, ten := x1 } : Req)) U7 by rw [← hU7]; exact (HQ4.out.set 8 (.int .i64 x1)))
      rw [hU7]
      clear c5 z6 hU7
      have c8 : U7.cell? ⟨w.heap.size + 1, 8, none⟩ = some (.int .i64 x1) := by rw [Lib.cell_of_heap HQ7.out.row]; rfl
      have c9 : U7.cell? ⟨w.heap.size + 1, 0, none⟩ = some (.int .i64 9) := by rw [Lib.cell_of_heap HQ7.out.row]; rfl
      obtain ⟨p, hp⟩ : ∃ x, ((rdH (49 :: 46 :: 49 :: 46 :: t2)).getD (0, 0, 0)).1 = x := ⟨_, rfl⟩
      obtain ⟨q, hq⟩ : ∃ x, ((rdH (49 :: 46 :: 49 :: 46 :: t2)).getD (0, 0, 0)).2.1 = x := ⟨_, rfl⟩
      obtain ⟨g, hg⟩ : ∃ x, ((rdH (49 :: 46 :: 49 :: 46 :: t2)).getD (0, 0, 0)).2.2 = x := ⟨_, rfl⟩
      obtain ⟨b2, hb2⟩ : ∃ b, (rdH (49 :: 46 :: 49 :: 46 :: t2)).isSome = b := ⟨_, rfl⟩
      rw [hp, hq, hg, hb2] at HC2
      clear hp hq
      have v10 := HW2.out U7 HQ7.out.later
      go_wp2_with fail
      refine (HC2.out U7).mono ?_
      rintro y11 w11 ⟨rfl, hl11⟩
      have HQ11 := Lib.hid (HQ7.out.after hl11)
      clear c8 c9 v10 hl11
      go_upto_region 21 with fail
      obtain ⟨U12, hU12⟩ : ∃ U, w11.alloc (.cells #[.int .i64 p, .int .u32 q, .int .u8 g] 34) = U := ⟨_, rfl⟩
      have hk12 : U12.heap[w11.heap.size]? = some (.cells #[.int .i64 p, .int .u32 q, .int .u8 g] 34 (0, 0)) := by rw [← hU12]; exact (MapKept.heap_alloc _ _).1
      have HQ12 := Lib.hid (show RQ w _ U12 by rw [← hU12]; exact HQ11.out.after ((Later.refl _).alloc _))
      rw [hU12]
      have hcb : U12.cell? ⟨w11.heap.size, 2, none⟩ = some (.int .u8 g) := by rw [Lib.cell_of_heap hk12]; rfl
      have c13 : U12.cell? ⟨w.heap.size + 1, 11, none⟩ = some (.int .u8 0) := by rw [Lib.cell_of_heap HQ12.out.row]; rfl
      have z14 : U12.frozen? ⟨w.heap.size + 1, 11, none⟩ = false := Lib.frozen_of_heap HQ12.out.row 11
      go_upto_region 22 with fail
      obtain ⟨U15, hU15⟩ : ∃ U, (U12.setCell ⟨w.heap.size + 1, 11, none⟩ (.int .u8 g)) = U := ⟨_, rfl⟩
      have HQ15 := Lib.hid (show RQ w (reqA ({ req0 with deed := 9, ten := x1, rts := g } : Req)) U15 by rw [← hU15]; exact (HQ12.out.set 11 (.int .u8 g)))
      rw [hU15]
      clear hU12 hk12 hcb c13 z14 hU15
      obtain ⟨A, hA⟩ := RQ.done (r := ({ req0 with deed := 9, ten := x1, rts := g } : Req)) HQ15.out
      have HA := Lib.hid hA
      have HF := Lib.hid (hA.fin (show RQP [w0, t1, t2] ({ req0 with deed := 9, ten := x1, rts := g } : Req) (b1 && b2) by rw [← hb1]; rw [← hx1]; rw [← hg]; rw [← hb2]; exact rqP9 HNW.out))
      obtain ⟨a0, a1, a2, a3, a4, a5, a6, a7, a8, a9, a10, a11⟩ := req_cells hA.row
      clear hA
      cases b1 <;> cases b2
      all_goals go_upto_region 23 with fail
      all_goals
       go_wp2_with (first | (refine wpList_load_mid rfl 39 (.tmp 4) rfl (w.heap.size + 1) 0 rfl A.toList _ HA.out.rg Tryz.underlying39 rfl HA.out.al ?_; rw [Array.toArray_toList]) | (refine wpList_store_rowTo rfl 39 (.tmp 2) (.tmp 114) rfl rfl w.heap.size A rfl rfl 39 (reqA req0) HA.out.res HA.out.sz HA.out.az HA.out.ao ?_))
       refine bodyPost_ret ?_ rfl HF.out
       simp [results, Tryz.results40, go_sem, a0, a1, a2, a3, a4, a5, a6, a7, a8, a9, a10, a11, reqV, reqA, req0]
     ·have hL4 : L = 2 := by rw [hLm, ← hm]; rfl
      subst hL4
      clear hLm hm hd1 hd10
      obtain ⟨t1, hrest⟩ := list1 rest (by have := HLN.out; omega)
      subst hrest
      obtain ⟨V1, hV1⟩ : ∃ V : ByteArray, ⟨t1.toArray⟩ = V := ⟨_, rfl⟩
      have HW1 := Lib.hid (show ∀ W, Later w W → W.cell? ⟨X, off + 1, none⟩ = some (.string V1) from fun W hl => by rw [← hV1]; exact HCS.out W hl 1 (by simp))
      have hd1 : V1.data.toList = t1 := by rw [← hV1]
      have hs1 : V1.size ≤ 100000000 := by rw [← hV1, size_mk]; have := HSM.out; simp [sumL] at this; omega
      clear hV1
      have HC1 := Lib.hid (fun W => rNum hd1 (by omega) W)
      clear hd1 hs1
      go_upto_region 9 with fail
      obtain ⟨U1, hU1⟩ : ∃ U, wk.alloc (.cells #[.int .i64 (-1), .int .i64 2, .int .i64 3, .int .i64 2, .int .i64 4, .int .i64 3, .int .i64 1, .int .i64 3, .int .i64 1, .int .i64 2, .int .i64 1] 3) = U := ⟨_, rfl⟩
      have hk1 : U1.heap[wk.heap.size]? = some (.cells #[.int .i64 (-1), .int .i64 2, .int .i64 3, .int .i64 2, .int .i64 4, .int .i64 3, .int .i64 1, .int .i64 3, .int .i64 1, .int .i64 2, .int .i64 1] 3 (0, 0)) := by rw [← hU1]; exact (MapKept.heap_alloc _ _).1
      have HQ1 := Lib.hid (show RQ w _ U1 by rw [← hU1]; exact HQ.out.after ((Later.refl _).alloc _))
      rw [hU1]
      have hcm : U1.cell? ⟨wk.heap.size, 10, none⟩ = some (.int .i64 1) := by rw [Lib.cell_of_heap hk1]; rfl
      have c2 : U1.cell? ⟨w.heap.size + 1, 0, none⟩ = some (.int .i64 10) := by rw [Lib.cell_of_heap HQ1.out.row]; rfl
      obtain ⟨x1, hx1⟩ : ∃ x, (num t1).getD (-1) = x := ⟨_, rfl⟩
      obtain ⟨b1, hb1⟩ : ∃ b, decide ((0 : Int) ≤ x1) = b := ⟨_, rfl⟩
      rw [hx1] at HC1
      have v3 := HW1.out U1 HQ1.out.later
      go_wp2_with fail
      refine (HC1.out U1).mono ?_
      rintro y4 w4 ⟨rfl, hl4⟩
      have HQ4 := Lib.hid (HQ1.out.after hl4)
      clear hU1 hk1 hcm c2 v3 hl4
      have c5 : w4.cell? ⟨w.heap.size + 1, 8, none⟩ = some (.int .i64 0) := by rw [Lib.cell_of_heap HQ4.out.row]; rfl
      have z6 : w4.frozen? ⟨w.heap.size + 1, 8, none⟩ = false := Lib.frozen_of_heap HQ4.out.row 8
      go_upto_region 13 with fail
      obtain ⟨U7, hU7⟩ : ∃ U, (w4.setCell ⟨w.heap.size + 1, 8, none⟩ (.int .i64 x1)) = U := ⟨_, rfl⟩
      have HQ7 := Lib.hid (show RQ w (reqA ({ req0 with deed := 10, ten := x1 } : Req)) U7 by rw [← hU7]; exact (HQ4.out.set 8 (.int .i64 x1)))
      rw [hU7]
      clear c5 z6 hU7
      have c8 : U7.cell? ⟨w.heap.size + 1, 8, none⟩ = some (.int .i64 x1) := by rw [Lib.cell_of_heap HQ7.out.row]; rfl
      have c9 : U7.cell? ⟨w.heap.size + 1, 0, none⟩ = some (.int .i64 10) := by rw [Lib.cell_of_heap HQ7.out.row]; rfl
      obtain ⟨A, hA⟩ := RQ.done (r := ({ req0 with deed := 10, ten := x1 } : Req)) HQ7.out
      have HA := Lib.hid hA
      have HF := Lib.hid (hA.fin (show RQP [w0, t1] ({ req0 with deed := 10, ten := x1 } : Req) (b1) by rw [← hb1]; rw [← hx1]; exact rqP10 HNW.out))
      obtain ⟨a0, a1, a2, a3, a4, a5, a6, a7, a8, a9, a10, a11⟩ := req_cells hA.row
      clear hA
      cases b1
      all_goals go_upto_region 23 with fail
      all_goals clear c8 c9
      all_goals
       go_wp2_with (first | (refine wpList_load_mid rfl 39 (.tmp 4) rfl (w.heap.size + 1) 0 rfl A.toList _ HA.out.rg Tryz.underlying39 rfl HA.out.al ?_; rw [Array.toArray_toList]) | (refine wpList_store_rowTo rfl 39 (.tmp 2) (.tmp 114) rfl rfl w.heap.size A rfl rfl 39 (reqA req0) HA.out.res HA.out.sz HA.out.az HA.out.ao ?_))
       refine bodyPost_ret ?_ rfl HF.out
       simp [results, Tryz.results40, go_sem, a0, a1, a2, a3, a4, a5, a6, a7, a8, a9, a10, a11, reqV, reqA, req0]
    ·obtain ⟨q, hq⟩ : ∃ q : Nat, L = q + 1 := ⟨L - 1, by have := HLP.out; omega⟩
     have a1 : IntKind.i64.wrap ((L : Int) - 1) = (q : Int) := by
      rw [show (L : Int) - 1 = (q : Int) by omega]
      exact IntWalk.i64_in _ (by have := HLB.out; omega)
     have tq : ((q : Int) != (m : Int)) = true := by simp; omega
     have tq2 : ((q : Int) == (m : Int)) = false := by simp; omega
     have tq3 : (q == m) = false := by simp; omega
     have tz : ((dd : Int) == 0) = false := by simp; omega
     have tz2 : (dd == 0) = false := by simp; omega
     have hd11 : (dd : Int) < 11 := by omega
     have HRD := Lib.hid (show readR (w0 :: rest) = none by rw [readR_of ⟨hd1, hd10⟩ HNW.out]; exact foldF_no _ _ _ (by have h1 := HLN.out; rw [hm]; omega))
     have HMM := Lib.hid (And.intro (And.intro hd1 hd10) hm)
     clear hq hLm hm hd1 hd10
     go_upto_region 9 with fail
     obtain ⟨U1, hU1⟩ : ∃ U, wk.alloc (.cells #[.int .i64 (-1), .int .i64 2, .int .i64 3, .int .i64 2, .int .i64 4, .int .i64 3, .int .i64 1, .int .i64 3, .int .i64 1, .int .i64 2, .int .i64 1] 3) = U := ⟨_, rfl⟩
     have hk1 : U1.heap[wk.heap.size]? = some (.cells #[.int .i64 (-1), .int .i64 2, .int .i64 3, .int .i64 2, .int .i64 4, .int .i64 3, .int .i64 1, .int .i64 3, .int .i64 1, .int .i64 2, .int .i64 1] 3 (0, 0)) := by rw [← hU1]; exact (MapKept.heap_alloc _ _).1
     have HQ1 := Lib.hid (show RQ w _ U1 by rw [← hU1]; exact HQ.out.after ((Later.refl _).alloc _))
     rw [hU1]
     have hcm : U1.cell? ⟨wk.heap.size, dd, none⟩ = some (.int .i64 (m : Int)) := by rw [Lib.cell_of_heap hk1, ← HMM.out.2]; exact many_at dd HMM.out.1
     have c2 : U1.cell? ⟨w.heap.size + 1, 0, none⟩ = some (.int .i64 (dd : Int)) := by rw [Lib.cell_of_heap HQ1.out.row]; rfl
     go_upto_region 10 with fail
     obtain ⟨A, hA⟩ := RQ.done (r := ({ req0 with deed := (dd : Int) } : Req)) HQ1.out
     have HA := Lib.hid hA
     have HF := Lib.hid (hA.fin (RQP.no _ HRD.out))
     obtain ⟨a0, a1, a2, a3, a4, a5, a6, a7, a8, a9, a10, a11⟩ := req_cells hA.row
     clear hA
     clear hU1 hk1 hcm c2
     go_wp2_with (first | (refine wpList_load_mid rfl 39 (.tmp 4) rfl (w.heap.size + 1) 0 rfl A.toList _ HA.out.rg Tryz.underlying39 rfl HA.out.al ?_; rw [Array.toArray_toList]) | (refine wpList_store_rowTo rfl 39 (.tmp 2) (.tmp 55) rfl rfl w.heap.size A rfl rfl 39 (reqA req0) HA.out.res HA.out.sz HA.out.az HA.out.ao ?_))
     refine bodyPost_ret ?_ rfl HF.out
     simp [results, Tryz.results40, go_sem, a0, a1, a2, a3, a4, a5, a6, a7, a8, a9, a10, a11, reqV, reqA, req0]
end Go.Proofs.YtkbedajbbakihaaGreatDoor
