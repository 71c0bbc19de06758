/-
 Texts of this proof, put together (Tq2): each part's first words say what it holds. Conditions: as each part says.
-/
import Derived.Test.YtkbedajbbakihaaGreatDoorYk
/-
 The reference's request, walked. Conditions: the words are not too long.
-/
namespace Go.Proofs.YtkbedajbbakihaaGreatDoor
open Go.RowKit Go.Sort Go.Lib
set_option linter.unusedSimpArgs false
set_option linter.unusedVariables false
set_option maxRecDepth 100000 in
set_option maxHeartbeats 32000000 in
theorem refReq_b (v : Value) (w0 : List UInt8) (rest : List (List UInt8)) (w : World) (h : SL w v (w0 :: rest)) (hsm : sumL (w0 :: rest) ≤ 100000000) (hlb : (w0 :: rest).length ≤ 1000000000) (dd : Nat) (hdd : 4 ≤ dd ∧ dd ≤ 6) (hnm : ∀ k : Nat, 1 ≤ k → k ≤ 10 → (nameN k = w0 ↔ k = dd)) :
  Calls Tryz.prog 40 #[v] w (RQE (w0 :: rest) w) := by
 obtain ⟨ao, cap, rfl, hx⟩ := id h
 obtain ⟨X, off, rfl, hc⟩ := hx.resolve_left (by simp)
 obtain ⟨L, hL⟩ : ∃ L, (w0 :: rest).length = L := ⟨_, rfl⟩
 have HCS := Lib.hid (show ∀ W, Later w W → ∀ j, j < (w0 :: rest).length → W.cell? ⟨X, off + j, none⟩ = some (.string ⟨(wrd (w0 :: rest) j).toArray⟩) from fun W hl j hj => cell_at hl (hc j hj) (cell_lt (hc j hj)))
 obtain ⟨V0, hV0⟩ : ∃ V : ByteArray, ⟨w0.toArray⟩ = V := ⟨_, rfl⟩
 have HW0 := Lib.hid (show ∀ W, Later w W → W.cell? ⟨X, off, none⟩ = some (.string V0) from fun W hl => by rw [← hV0]; exact HCS.out W hl 0 (by simp))
 have HNM0 := Lib.hid hnm
 have HDD := Lib.hid hdd
 have HLN := Lib.hid (show rest.length + 1 = L by rw [← hL]; rfl)
 have HLP := Lib.hid (show 0 < L by rw [← hL]; simp)
 rw [hL] at hlb ⊢
 have HLB := Lib.hid hlb
 have HSM := Lib.hid hsm
 have HV0 := Lib.hid hV0
 have hq0 : RQ w (reqA req0) ((w.alloc (.cells (reqA req0) 39)).alloc (.cells (reqA req0) 39)) := by
  have h1 := (MapKept.heap_alloc w (.cells (reqA req0) 39)).1
  have h2 := (MapKept.heap_alloc (w.alloc (.cells (reqA req0) 39)) (.cells (reqA req0) 39)).1
  have hs : (w.alloc (.cells (reqA req0) 39)).heap.size = w.heap.size + 1 := by show (w.heap.push _).size = _; simp
  rw [hs] at h2
  exact ⟨((Later.refl w).alloc _).alloc _, by show w.heap.size + 2 ≤ ((w.heap.push _).push _).size; simp, (((Later.refl _).alloc _).block _ (Array.getElem?_eq_some_iff.1 h1).1).trans h1, h2⟩
 have HQ0 := Lib.hid hq0
 clear h hx hc hL hnm hlb hsm hV0 hq0 hdd
 go_enter Tryz.func40, Tryz.ntmps40
 go_wp2_with fail
 go_loopw [5] (fun i wr => ∃ (k : Nat) (D : Int), 1 ≤ k ∧ k ≤ 11 ∧ i = .int .i64 k ∧ ((D = 0 ∧ k ≤ dd) ∨ (D = (dd : Int) ∧ dd < k)) ∧ RQ w (reqA { req0 with deed := D }) wr) (fun i _ => 11 - (RowKit.intOf i).toNat)
 case atStart => exact ⟨1, 0, by omega, by omega, rfl, .inl ⟨rfl, by have := HDD.out; omega⟩, HQ0.out⟩
 case round =>
  obtain ⟨k, D, hk1, hk11, rfl, hD, hq⟩ := hrel
  rename World => wk
  have HQ := Lib.hid hq
  have HD := Lib.hid hD
  clear hq hD HQ0
  by_cases hle : k ≤ 10
  ·have d0 : decide ((k : Int) ≤ 10) = true := decide_eq_true (by omega)
   have HK10 := Lib.hid (And.intro hk1 hle)
   obtain ⟨Nm, hNm⟩ : ∃ N : ByteArray, ⟨(nameN k).toArray⟩ = N := ⟨_, rfl⟩
   have HNM := Lib.hid (show (wsC namesL).toArray[k]? = some (.string Nm) by rw [← hNm]; exact names_at k ⟨hk1, hle⟩)
   obtain ⟨b, hb⟩ : ∃ b, (Nm.toList == V0.toList) = b := ⟨_, rfl⟩
   have HCM := Lib.hid (show (Nm.toList == V0.toList) = b ∧ (b = true ↔ k = dd) from ⟨hb, by
    rw [← HNM0.out k hk1 hle, ← hb, ← hNm, ← HV0.out, ByteArray.toList_mk, ByteArray.toList_mk]
    simp⟩)
   clear hNm hb
   go_wp2_with fail
   refine wp_region_iv mixedW (fun D' a' W' => ∃ x0 x1 x2 x3 x4 x5 x6 x7, a' = ⟨#[Value.slice (some { block := X, off := off }) L cap, undef, Value.pointer (some { block := w.heap.size, off := 0 }), Value.bool false, Value.pointer (some { block := w.heap.size + 1, off := 0 }), Value.int IntKind.i64 ↑k, undef, undef, undef, undef, undef, undef, undef, undef, undef, undef, undef, undef, undef, undef, undef, undef, undef, undef, undef, Value.int IntKind.i64 ↑k, Value.bool true, u27, u28, x0, x1, x2, x3, x4, x5, x6, x7, u37, u38, undef, undef, undef, undef, undef, undef, undef, undef, undef, undef, undef, undef, undef, undef, undef, undef, undef, undef, undef, undef, undef, undef, undef, undef, undef, undef, undef, undef, undef, undef, undef, undef, undef, undef, undef, undef, undef, undef, undef, undef, undef, undef, undef, undef, undef, undef, undef, undef, undef, undef, undef, undef, undef, undef, undef, undef, undef, undef, undef, undef, undef, undef, undef, undef, undef, undef, undef, undef, undef, undef, undef, undef, undef, undef, undef, undef, undef, undef, undef, undef, undef, undef, undef, undef, undef, undef, undef, undef, undef, undef, undef, undef, undef, undef, undef, undef, undef, undef, undef, undef, undef, undef, undef, undef, undef, undef, undef, undef, undef, undef, undef, undef, undef, undef, undef, undef, undef, undef, undef, undef, undef, undef, undef, undef, undef, undef, undef, undef, undef, undef, undef, undef, undef, undef, undef, undef, undef, undef, undef, undef, undef, undef, undef, undef, undef, undef, undef, undef, undef, undef, undef, undef, undef, undef, undef, undef, undef, undef, undef, undef], []⟩ ∧ (Later wk W') ∧ (D' 0 = true → ∃ Z, x0 = .slice (some ⟨Z, 0, none⟩) 11 11 ∧ W'.heap[Z]? = some (.cells (wsC namesL).toArray 9 (0, 0))) ∧ (D' 2 = true → ∃ Z, x2 = .pointer (some ⟨Z, k, none⟩) ∧ W'.heap[Z]? = some (.cells (wsC namesL).toArray 9 (0, 0))) ∧ (D' 1 = true → x1 = .int .i64 (k : Int)) ∧ (D' 3 = true → x3 = .string Nm) ∧ (D' 4 = true → x4 = .slice (some ⟨X, off, none⟩) L cap) ∧ (D' 5 = true → x5 = .pointer (some ⟨X, off, none⟩)) ∧ (D' 6 = true → x6 = .string V0) ∧ (D' 7 = true → x7 = .bool b)) (by kernel_rfl) ?_ ?_ ?_
   ·exact ⟨_, _, _, _, _, _, _, _, rfl, (Later.refl wk).drew, (fun h => by cases h), (fun h => by cases h), (fun h => by cases h), (fun h => by cases h), (fun h => by cases h), (fun h => by cases h), (fun h => by cases h), (fun h => by cases h)⟩
   ·intro i D' a' W' hi hDi hdep hcl hI
    obtain ⟨x0, x1, x2, x3, x4, x5, x6, x7, rfl, gL, gN, gP, f1, f3, f4, f5, f6, f7⟩ := hI
    have hi' : i = 0 ∨ i = 1 ∨ i = 2 ∨ i = 3 ∨ i = 4 ∨ i = 5 ∨ i = 6 ∨ i = 7 := by
     have : i < 8 := hi
     omega
    rcases hi' with rfl | rfl | rfl | rfl | rfl | rfl | rfl | rfl
    ·have h2 := hcl.no hDi (k := 2) (by decide) (by kernel_rfl)
     refine wpOp_step rfl (fun K' hK' => ?_)
     rw [if_pos (by rfl)]
     go_simp
     refine (refNames_is W').mono ?_
     rintro y8 w8 ⟨rfl, hw8⟩
     have hl1 : Later W' w8 := by rw [hw8]; exact (Later.refl W').alloc _
     have hz : w8.heap[W'.heap.size]? = some (.cells (wsC namesL).toArray 9 (0, 0)) := by rw [hw8]; exact (MapKept.heap_alloc W' _).1
     exact hK' _ _ ⟨_, x1, x2, x3, x4, x5, x6, x7, rfl, (gL.trans hl1), (fun _ => ⟨_, rfl, hz⟩), (fun h => absurd (show D' 2 = true from h) (by rw [h2]; decide)), f1, f3, f4, f5, f6, f7⟩
    ·skip
     refine wpOp_step rfl (fun K' hK' => ?_)
     rw [if_pos (by rfl)]
     go_simp
     exact hK' _ _ ⟨x0, _, x2, x3, x4, x5, x6, x7, rfl, gL, gN, gP, (fun _ => rfl), f3, f4, f5, f6, f7⟩
    ·obtain ⟨Z, qZ, hZ⟩ := gN (hdep 0 (by kernel_rfl))
     subst qZ
     have q1 := f1 (hdep 1 (by kernel_rfl))
     subst q1
     have hd11 : (k : Int) < 11 := by have := HK10.out; omega
     refine wpOp_step rfl (fun K' hK' => ?_)
     rw [if_pos (by rfl)]
     go_simp
     exact hK' _ _ ⟨_, _, _, x3, x4, x5, x6, x7, rfl, gL, (fun _ => ⟨Z, rfl, hZ⟩), (fun _ => ⟨Z, rfl, hZ⟩), (fun _ => rfl), f3, f4, f5, f6, f7⟩
    ·obtain ⟨Z, qZ, hZ⟩ := gP (hdep 2 (by kernel_rfl))
     subst qZ
     have hc : W'.cell? ⟨Z, k, none⟩ = some (.string Nm) := by rw [Lib.cell_of_heap hZ]; exact HNM.out
     refine wpOp_step rfl (fun K' hK' => ?_)
     rw [if_pos (by rfl)]
     go_simp
     exact hK' _ _ ⟨x0, x1, _, _, x4, x5, x6, x7, rfl, gL, gN, (fun _ => ⟨Z, rfl, hZ⟩), f1, (fun _ => rfl), f4, f5, f6, f7⟩
    ·skip
     refine wpOp_step rfl (fun K' hK' => ?_)
     rw [if_pos (by rfl)]
     go_simp
     exact hK' _ _ ⟨x0, x1, x2, x3, _, x5, x6, x7, rfl, gL, gN, gP, f1, f3, (fun _ => rfl), f5, f6, f7⟩
    ·have q4 := f4 (hdep 4 (by kernel_rfl))
     subst q4
     have hL1 : (0 : Int) < (L : Int) := by have := HLP.out; omega
     have hL2 : 0 < L := HLP.out
     refine wpOp_step rfl (fun K' hK' => ?_)
     rw [if_pos (by rfl)]
     go_simp
     exact hK' _ _ ⟨x0, x1, x2, x3, _, _, x6, x7, rfl, gL, gN, gP, f1, f3, (fun _ => rfl), (fun _ => rfl), f6, f7⟩
    ·have q5 := f5 (hdep 5 (by kernel_rfl))
     subst q5
     have hc : W'.cell? ⟨X, off, none⟩ = some (.string V0) := HW0.out W' (HQ.out.later.trans gL)
     refine wpOp_step rfl (fun K' hK' => ?_)
     rw [if_pos (by rfl)]
     go_simp
     exact hK' _ _ ⟨x0, x1, x2, x3, x4, _, _, x7, rfl, gL, gN, gP, f1, f3, f4, (fun _ => rfl), (fun _ => rfl), f7⟩
    ·have q3 := f3 (hdep 3 (by kernel_rfl))
     have q6 := f6 (hdep 6 (by kernel_rfl))
     subst q3
     subst q6
     have hcm := HCM.out.1
     refine wpOp_step rfl (fun K' hK' => ?_)
     rw [if_pos (by rfl)]
     go_simp
     exact hK' _ _ ⟨x0, x1, x2, _, x4, x5, _, _, rfl, gL, gN, gP, f1, (fun _ => rfl), f4, f5, (fun _ => rfl), (fun _ => rfl)⟩
   ·rintro D' a' W' hD' ⟨x0, x1, x2, x3, x4, x5, x6, x7, rfl, gL, gN, gP, f1, f3, f4, f5, f6, f7⟩
    have q7 := f7 (hD' 7 (by decide))
    subst q7
    have HGL := Lib.hid gL
    clear gL gN gP f1 f3 f4 f5 f6 f7
    have HQ1 := Lib.hid (HQ.out.after HGL.out)
    have c0 : W'.cell? ⟨w.heap.size + 1, 0, none⟩ = some (.int .i64 D) := by rw [Lib.cell_of_heap HQ1.out.row]; rfl
    have f0 : W'.frozen? ⟨w.heap.size + 1, 0, none⟩ = false := Lib.frozen_of_heap HQ1.out.row 0
    cases b with
    | true =>
     have HKD := Lib.hid (HCM.out.2.1 rfl)
     have HREL := Lib.hid (show RQ w (reqA { req0 with deed := (k : Int) }) (W'.setCell ⟨w.heap.size + 1, 0, none⟩ (.int .i64 (k : Int))) from HQ1.out.set 0 (.int .i64 (k : Int)))
     go_wp2_with fail
     go_roundw
     case rel => exact ⟨k + 1, k, by omega, by omega, by go_num, .inr (by have := HKD.out; omega), HREL.out⟩
     case measure => simp [RowKit.intOf]; omega
    | false =>
     have HKD := Lib.hid (show k ≠ dd from fun h => by have := HCM.out.2.2 h; cases this)
     go_wp2_with fail
     go_roundw
     case rel => exact ⟨k + 1, D, by omega, by omega, by go_num, by have h1 := HD.out; have h2 := HKD.out; omega, HQ1.out⟩
     case measure => simp [RowKit.intOf]; omega
  ·have d0 : decide ((k : Int) ≤ 10) = false := decide_eq_false (by omega)
   have hd1 : 1 ≤ dd := by have := HDD.out; omega
   have hd10 : dd ≤ 10 := by have := HDD.out; omega
   have hDd : D = (dd : Int) := by have := HD.out; omega
   subst hDd
   clear HD hk1 hk11
   have HNW := Lib.hid ((HNM0.out dd hd1 hd10).2 rfl)
   obtain ⟨m, hm⟩ : ∃ m, (fldsN dd).length = m := ⟨_, rfl⟩
   by_cases hLm : L = m + 1
   ·have hds : dd = 4 ∨ dd = 5 ∨ dd = 6 := by have := HDD.out; omega
    rcases hds with rfl | rfl | rfl
    ·have hL4 : L = 5 := by rw [hLm, ← hm]; rfl
     subst hL4
     clear hLm hm hd1 hd10
     obtain ⟨t1, t2, t3, t4, hrest⟩ := list4 rest (by have := HLN.out; omega)
     subst hrest
     obtain ⟨V1, hV1⟩ : ∃ V : ByteArray, ⟨t1.toArray⟩ = V := ⟨_, rfl⟩
     have HW1 := Lib.hid (show ∀ W, Later w W → W.cell? ⟨X, off + 1, none⟩ = some (.string V1) from fun W hl => by rw [← hV1]; exact HCS.out W hl 1 (by simp))
     have hd1 : V1.data.toList = t1 := by rw [← hV1]
     have hs1 : V1.size ≤ 100000000 := by rw [← hV1, size_mk]; have := HSM.out; simp [sumL] at this; omega
     clear hV1
     obtain ⟨V2, hV2⟩ : ∃ V : ByteArray, ⟨t2.toArray⟩ = V := ⟨_, rfl⟩
     have HW2 := Lib.hid (show ∀ W, Later w W → W.cell? ⟨X, off + 2, none⟩ = some (.string V2) from fun W hl => by rw [← hV2]; exact HCS.out W hl 2 (by simp))
     have hd2 : V2.data.toList = t2 := by rw [← hV2]
     have hs2 : V2.size ≤ 100000000 := by rw [← hV2, size_mk]; have := HSM.out; simp [sumL] at this; omega
     clear hV2
     obtain ⟨V3, hV3⟩ : ∃ V : ByteArray, ⟨t3.toArray⟩ = V := ⟨_, rfl⟩
     have HW3 := Lib.hid (show ∀ W, Later w W → W.cell? ⟨X, off + 3, none⟩ = some (.string V3) from fun W hl => by rw [← hV3]; exact HCS.out W hl 3 (by simp))
     have hd3 : V3.data.toList = t3 := by rw [← hV3]
     have hs3 : V3.size ≤ 100000000 := by rw [← hV3, size_mk]; have := HSM.out; simp [sumL] at this; omega
     clear hV3
     obtain ⟨V4, hV4⟩ : ∃ V : ByteArray, ⟨t4.toArray⟩ = V := ⟨_, rfl⟩
     have HW4 := Lib.hid (show ∀ W, Later w W → W.cell? ⟨X, off + 4, none⟩ = some (.string V4) from fun W hl => by rw [← hV4]; exact HCS.out W hl 4 (by simp))
     have hd4 : V4.data.toList = t4 := by rw [← hV4]
     have hs4 : V4.size ≤ 100000000 := by rw [← hV4, size_mk]; have := HSM.out; simp [sumL] at this; omega
     clear hV4
     have HC1 := Lib.hid (fun W => rRd hd1 (by omega) W)
     have HC2 := Lib.hid (fun W => rUnw hd2 (by omega) W)
     have HC3 := Lib.hid (fun W => rUnw hd3 (by omega) W)
     have HC4 := Lib.hid (fun W => rUnw hd4 (by omega) W)
     clear hd1 hs1 hd2 hs2 hd3 hs3 hd4 hs4
     go_upto_region 9 with fail
     obtain ⟨U1, hU1⟩ : ∃ U, wk.alloc (.cells #[.int .i64 (-1), .int .i64 2, .int .i64 3, .int .i64 2, .int .i64 4, .int .i64 3, .int .i64 1, .int .i64 3, .int .i64 1, .int .i64 2, .int .i64 1] 3) = U := ⟨_, rfl⟩
     have hk1 : U1.heap[wk.heap.size]? = some (.cells #[.int .i64 (-1), .int .i64 2, .int .i64 3, .int .i64 2, .int .i64 4, .int .i64 3, .int .i64 1, .int .i64 3, .int .i64 1, .int .i64 2, .int .i64 1] 3 (0, 0)) := by rw [← hU1]; exact (MapKept.heap_alloc _ _).1
     have HQ1 := Lib.hid (show RQ w _ U1 by rw [← hU1]; exact HQ.out.after ((Later.refl _).alloc _))
     rw [hU1]
     have hcm : U1.cell? ⟨wk.heap.size, 4, none⟩ = some (.int .i64 4) := by rw [Lib.cell_of_heap hk1]; rfl
     have c2 : U1.cell? ⟨w.heap.size + 1, 0, none⟩ = some (.int .i64 4) := by rw [Lib.cell_of_heap HQ1.out.row]; rfl
     cases h1 : rdH t1 with
     | none =>
      have HD1 := Lib.hid (show ∀ W, Calls Tryz.prog 79 #[.string V1] W fun e w' => e = .returned (.tuple #[.agg #[.int .i64 0, .int .u32 0, .int .u8 0], .int .i64 7]) ∧ Later W w' from fun W => by have h := HC1.out W; rw [h1] at h; exact h)
      have HRD := Lib.hid (show readR [w0, t1, t2, t3, t4] = none by rw [readR_of (d := 4) (by decide) HNW.out]; simp [fldsN, foldF, stepF, h1])
      clear h1
      have v3 := HW1.out U1 HQ1.out.later
      go_wp2_with fail
      refine (HD1.out U1).mono ?_
      rintro y4 w4 ⟨rfl, hl4⟩
      have HQ4 := Lib.hid (HQ1.out.after hl4)
      clear hU1 hk1 hcm c2 v3 hl4
      go_upto_region 25 with fail
      obtain ⟨U5, hU5⟩ : ∃ U, w4.alloc (.cells #[.int .i64 0, .int .u32 0, .int .u8 0] 34) = U := ⟨_, rfl⟩
      have hk5 : U5.heap[w4.heap.size]? = some (.cells #[.int .i64 0, .int .u32 0, .int .u8 0] 34 (0, 0)) := by rw [← hU5]; exact (MapKept.heap_alloc _ _).1
      have HQ5 := Lib.hid (show RQ w _ U5 by rw [← hU5]; exact HQ4.out.after ((Later.refl _).alloc _))
      rw [hU5]
      go_upto_region 26 with fail
      obtain ⟨A, hA⟩ := RQ.done (r := ({ req0 with deed := 4 } : Req)) HQ5.out
      have HA := Lib.hid hA
      have HF := Lib.hid (hA.fin (RQP.no (ws := [w0, t1, t2, t3, t4]) _ HRD.out))
      obtain ⟨a0, a1, a2, a3, a4, a5, a6, a7, a8, a9, a10, a11⟩ := req_cells hA.row
      clear hA
      clear hU5 hk5
      go_wp2_with (first | (refine wpList_load_mid rfl 39 (.tmp 4) rfl (w.heap.size + 1) 0 rfl A.toList _ HA.out.rg Tryz.underlying39 rfl HA.out.al ?_; rw [Array.toArray_toList]) | (refine wpList_store_rowTo rfl 39 (.tmp 2) (.tmp 125) rfl rfl w.heap.size A rfl rfl 39 (reqA req0) HA.out.res HA.out.sz HA.out.az HA.out.ao ?_))
      refine bodyPost_ret ?_ rfl HF.out
      simp [results, Tryz.results40, go_sem, a0, a1, a2, a3, a4, a5, a6, a7, a8, a9, a10, a11, reqV, reqA, req0]
     | some x =>
      obtain ⟨p, q, g⟩ := x
      have HD1 := Lib.hid (show ∀ W, Calls Tryz.prog 79 #[.string V1] W fun e w' => e = .returned (.tuple #[.agg #[.int .i64 p, .int .u32 q, .int .u8 g], .int .i64 0]) ∧ Later W w' from fun W => by have h := HC1.out W; rw [h1] at h; exact h)
      have HP1 := Lib.hid h1
      clear h1
      obtain ⟨s2, hs2⟩ : ∃ s, (unword t2).getD [] = s := ⟨_, rfl⟩
      obtain ⟨b2, hb2⟩ : ∃ b, (unword t2).isSome = b := ⟨_, rfl⟩
      rw [hs2, hb2] at HC2
      obtain ⟨s3, hs3⟩ : ∃ s, (unword t3).getD [] = s := ⟨_, rfl⟩
      obtain ⟨b3, hb3⟩ : ∃ b, (unword t3).isSome = b := ⟨_, rfl⟩
      rw [hs3, hb3] at HC3
      obtain ⟨s4, hs4⟩ : ∃ s, (unword t4).getD [] = s := ⟨_, rfl⟩
      obtain ⟨b4, hb4⟩ : ∃ b, (unword t4).isSome = b := ⟨_, rfl⟩
      rw [hs4, hb4] at HC4
      have v3 := HW1.out U1 HQ1.out.later
      go_wp2_with fail
      refine (HD1.out U1).mono ?_
      rintro y4 w4 ⟨rfl, hl4⟩
      have HQ4 := Lib.hid (HQ1.out.after hl4)
      clear hU1 hk1 hcm c2 v3 hl4
      go_upto_region 25 with fail
      obtain ⟨U5, hU5⟩ : ∃ U, w4.alloc (.cells #[.int .i64 p, .int .u32 q, .int .u8 g] 34) = U := ⟨_, rfl⟩
      have hk5 : U5.heap[w4.heap.size]? = some (.cells #[.int .i64 p, .int .u32 q, .int .u8 g] 34 (0, 0)) := by rw [← hU5]; exact (MapKept.heap_alloc _ _).1
      have HQ5 := Lib.hid (show RQ w _ U5 by rw [← hU5]; exact HQ4.out.after ((Later.refl _).alloc _))
      rw [hU5]
      have hb_0 : U5.cell? ⟨w4.heap.size, 0, none⟩ = some (.int .i64 p) := by rw [Lib.cell_of_heap hk5]; rfl
      have hb_1 : U5.cell? ⟨w4.heap.size, 1, none⟩ = some (.int .u32 q) := by rw [Lib.cell_of_heap hk5]; rfl
      have hb_2 : U5.cell? ⟨w4.heap.size, 2, none⟩ = some (.int .u8 g) := by rw [Lib.cell_of_heap hk5]; rfl
      have c6 : U5.cell? ⟨w.heap.size + 1, 1, none⟩ = some (.int .i64 0) := by rw [Lib.cell_of_heap HQ5.out.row]; rfl
      have c7 : U5.cell? ⟨w.heap.size + 1, 2, none⟩ = some (.int .u32 0) := by rw [Lib.cell_of_heap HQ5.out.row]; rfl
      have c8 : U5.cell? ⟨w.heap.size + 1, 3, none⟩ = some (.int .u8 0) := by rw [Lib.cell_of_heap HQ5.out.row]; rfl
      have z9 : U5.frozen? ⟨w.heap.size + 1, 1, none⟩ = false := Lib.frozen_of_heap HQ5.out.row 1
      have z10 : U5.frozen? ⟨w.heap.size + 1, 2, none⟩ = false := Lib.frozen_of_heap HQ5.out.row 2
      have z11 : U5.frozen? ⟨w.heap.size + 1, 3, none⟩ = false := Lib.frozen_of_heap HQ5.out.row 3
      go_upto_region 28 with fail
      obtain ⟨U12, hU12⟩ : ∃ U, (((U5.setCell ⟨w.heap.size + 1, 1, none⟩ (.int .i64 p)).setCell ⟨w.heap.size + 1, 2, none⟩ (.int .u32 q)).setCell ⟨w.heap.size + 1, 3, none⟩ (.int .u8 g)) = U := ⟨_, rfl⟩
      have HQ12 := Lib.hid (show RQ w (reqA ({ req0 with deed := 4, ht := p, hg := q, hr := g } : Req)) U12 by rw [← hU12]; exact (((HQ5.out.set 1 (.int .i64 p)).set 2 (.int .u32 q)).set 3 (.int .u8 g)))
      rw [hU12]
      clear hU5 hk5 hb_0 hb_1 hb_2 c6 c7 c8 z9 z10 z11 hU12
      have v13 := HW2.out U12 HQ12.out.later
      go_wp2_with fail
      refine (HC2.out U12).mono ?_
      rintro y14 w14 ⟨rfl, hl14⟩
      have HQ14 := Lib.hid (HQ12.out.after hl14)
      clear v13 hl14
      have c15 : w14.cell? ⟨w.heap.size + 1, 4, none⟩ = some (.string ⟨#[]⟩) := by rw [Lib.cell_of_heap HQ14.out.row]; rfl
      have z16 : w14.frozen? ⟨w.heap.size + 1, 4, none⟩ = false := Lib.frozen_of_heap HQ14.out.row 4
      go_upto_region 32 with fail
      obtain ⟨U17, hU17⟩ : ∃ U, (w14.setCell ⟨w.heap.size + 1, 4, none⟩ (.string ⟨s2.toArray⟩)) = U := ⟨_, rfl⟩
      have HQ17 := Lib.hid (show RQ w (reqA ({ req0 with deed := 4, ht := p, hg := q, hr := g, key := s2 } : Req)) U17 by rw [← hU17]; exact (HQ14.out.set 4 (.string ⟨s2.toArray⟩)))
      rw [hU17]
      clear c15 z16 hU17
      have c18 : U17.cell? ⟨w.heap.size + 1, 0, none⟩ = some (.int .i64 4) := by rw [Lib.cell_of_heap HQ17.out.row]; rfl
      have v19 := HW3.out U17 HQ17.out.later
      go_wp2_with fail
      refine (HC3.out U17).mono ?_
      rintro y20 w20 ⟨rfl, hl20⟩
      have HQ20 := Lib.hid (HQ17.out.after hl20)
      clear c18 v19 hl20
      have v21 := HW4.out w20 HQ20.out.later
      go_wp2_with fail
      refine (HC4.out w20).mono ?_
      rintro y22 w22 ⟨rfl, hl22⟩
      have HQ22 := Lib.hid (HQ20.out.after hl22)
      clear v21 hl22
      have c23 : w22.cell? ⟨w.heap.size + 1, 6, none⟩ = some (.string ⟨#[]⟩) := by rw [Lib.cell_of_heap HQ22.out.row]; rfl
      have c24 : w22.cell? ⟨w.heap.size + 1, 5, none⟩ = some (.string ⟨#[]⟩) := by rw [Lib.cell_of_heap HQ22.out.row]; rfl
      have z25 : w22.frozen? ⟨w.heap.size + 1, 6, none⟩ = false := Lib.frozen_of_heap HQ22.out.row 6
      have z26 : w22.frozen? ⟨w.heap.size + 1, 5, none⟩ = false := Lib.frozen_of_heap HQ22.out.row 5
      go_upto_region 42 with fail
      obtain ⟨U27, hU27⟩ : ∃ U, ((w22.setCell ⟨w.heap.size + 1, 6, none⟩ (.string ⟨s3.toArray⟩)).setCell ⟨w.heap.size + 1, 5, none⟩ (.string ⟨s4.toArray⟩)) = U := ⟨_, rfl⟩
      have HQ27 := Lib.hid (show RQ w (reqA ({ req0 with deed := 4, ht := p, hg := q, hr := g, key := s2, old := s3, val := s4 } : Req)) U27 by rw [← hU27]; exact ((HQ22.out.set 6 (.string ⟨s3.toArray⟩)).set 5 (.string ⟨s4.toArray⟩)))
      rw [hU27]
      clear c23 c24 z25 z26 hU27
      obtain ⟨A, hA⟩ := RQ.done (r := ({ req0 with deed := 4, ht := p, hg := q, hr := g, key := s2, old := s3, val := s4 } : Req)) HQ27.out
      have HA := Lib.hid hA
      have HF := Lib.hid (hA.fin (show RQP [w0, t1, t2, t3, t4] ({ req0 with deed := 4, ht := p, hg := q, hr := g, key := s2, old := s3, val := s4 } : Req) (b2 && b3 && b4) by rw [← hs2]; rw [← hb2]; rw [← hs3]; rw [← hb3]; rw [← hs4]; rw [← hb4]; exact rqP4 HP1.out HNW.out))
      obtain ⟨a0, a1, a2, a3, a4, a5, a6, a7, a8, a9, a10, a11⟩ := req_cells hA.row
      clear hA
      cases b2 <;> cases b3 <;> cases b4
      all_goals go_upto_region 46 with fail
      all_goals
       go_wp2_with (first | (refine wpList_load_mid rfl 39 (.tmp 4) rfl (w.heap.size + 1) 0 rfl A.toList _ HA.out.rg Tryz.underlying39 rfl HA.out.al ?_; rw [Array.toArray_toList]) | (refine wpList_store_rowTo rfl 39 (.tmp 2) (.tmp 197) rfl rfl w.heap.size A rfl rfl 39 (reqA req0) HA.out.res HA.out.sz HA.out.az HA.out.ao ?_))
       refine bodyPost_ret ?_ rfl HF.out
       simp [results, Tryz.results40, go_sem, a0, a1, a2, a3, a4, a5, a6, a7, a8, a9, a10, a11, reqV, reqA, req0]
    ·have hL4 : L = 4 := by rw [hLm, ← hm]; rfl
     subst hL4
     clear hLm hm hd1 hd10
     obtain ⟨t1, t2, t3, hrest⟩ := list3 rest (by have := HLN.out; omega)
     subst hrest
     obtain ⟨V1, hV1⟩ : ∃ V : ByteArray, ⟨t1.toArray⟩ = V := ⟨_, rfl⟩
     have HW1 := Lib.hid (show ∀ W, Later w W → W.cell? ⟨X, off + 1, none⟩ = some (.string V1) from fun W hl => by rw [← hV1]; exact HCS.out W hl 1 (by simp))
     have hd1 : V1.data.toList = t1 := by rw [← hV1]
     have hs1 : V1.size ≤ 100000000 := by rw [← hV1, size_mk]; have := HSM.out; simp [sumL] at this; omega
     clear hV1
     obtain ⟨V2, hV2⟩ : ∃ V : ByteArray, ⟨t2.toArray⟩ = V := ⟨_, rfl⟩
     have HW2 := Lib.hid (show ∀ W, Later w W → W.cell? ⟨X, off + 2, none⟩ = some (.string V2) from fun W hl => by rw [← hV2]; exact HCS.out W hl 2 (by simp))
     have hd2 : V2.data.toList = t2 := by rw [← hV2]
     have hs2 : V2.size ≤ 100000000 := by rw [← hV2, size_mk]; have := HSM.out; simp [sumL] at this; omega
     clear hV2
     obtain ⟨V3, hV3⟩ : ∃ V : ByteArray, ⟨t3.toArray⟩ = V := ⟨_, rfl⟩
     have HW3 := Lib.hid (show ∀ W, Later w W → W.cell? ⟨X, off + 3, none⟩ = some (.string V3) from fun W hl => by rw [← hV3]; exact HCS.out W hl 3 (by simp))
     have hd3 : V3.data.toList = t3 := by rw [← hV3]
     have hs3 : V3.size ≤ 100000000 := by rw [← hV3, size_mk]; have := HSM.out; simp [sumL] at this; omega
     clear hV3
     have HC1 := Lib.hid (fun W => rRd hd1 (by omega) W)
     have HC2 := Lib.hid (fun W => rUnw hd2 (by omega) W)
     have HC3 := Lib.hid (fun W => rNum hd3 (by omega) W)
     clear hd1 hs1 hd2 hs2 hd3 hs3
     go_upto_region 9 with fail
     obtain ⟨U1, hU1⟩ : ∃ U, wk.alloc (.cells #[.int .i64 (-1), .int .i64 2, .int .i64 3, .int .i64 2, .int .i64 4, .int .i64 3, .int .i64 1, .int .i64 3, .int .i64 1, .int .i64 2, .int .i64 1] 3) = U := ⟨_, rfl⟩
     have hk1 : U1.heap[wk.heap.size]? = some (.cells #[.int .i64 (-1), .int .i64 2, .int .i64 3, .int .i64 2, .int .i64 4, .int .i64 3, .int .i64 1, .int .i64 3, .int .i64 1, .int .i64 2, .int .i64 1] 3 (0, 0)) := by rw [← hU1]; exact (MapKept.heap_alloc _ _).1
     have HQ1 := Lib.hid (show RQ w _ U1 by rw [← hU1]; exact HQ.out.after ((Later.refl _).alloc _))
     rw [hU1]
     have hcm : U1.cell? ⟨wk.heap.size, 5, none⟩ = some (.int .i64 3) := by rw [Lib.cell_of_heap hk1]; rfl
     have c2 : U1.cell? ⟨w.heap.size + 1, 0, none⟩ = some (.int .i64 5) := by rw [Lib.cell_of_heap HQ1.out.row]; rfl
     cases h1 : rdH t1 with
     | none =>
      have HD1 := Lib.hid (show ∀ W, Calls Tryz.prog 79 #[.string V1] W fun e w' => e = .returned (.tuple #[.agg #[.int .i64 0, .int .u32 0, .int .u8 0], .int .i64 7]) ∧ Later W w' from fun W => by have h := HC1.out W; rw [h1] at h; exact h)
      have HRD := Lib.hid (show readR [w0, t1, t2, t3] = none by rw [readR_of (d := 5) (by decide) HNW.out]; simp [fldsN, foldF, stepF, h1])
      clear h1
      have v3 := HW1.out U1 HQ1.out.later
      go_wp2_with fail
      refine (HD1.out U1).mono ?_
      rintro y4 w4 ⟨rfl, hl4⟩
      have HQ4 := Lib.hid (HQ1.out.after hl4)
      clear hU1 hk1 hcm c2 v3 hl4
      go_upto_region 25 with fail
      obtain ⟨U5, hU5⟩ : ∃ U, w4.alloc (.cells #[.int .i64 0, .int .u32 0, .int .u8 0] 34) = U := ⟨_, rfl⟩
      have hk5 : U5.heap[w4.heap.size]? = some (.cells #[.int .i64 0, .int .u32 0, .int .u8 0] 34 (0, 0)) := by rw [← hU5]; exact (MapKept.heap_alloc _ _).1
      have HQ5 := Lib.hid (show RQ w _ U5 by rw [← hU5]; exact HQ4.out.after ((Later.refl _).alloc _))
      rw [hU5]
      go_upto_region 26 with fail
      obtain ⟨A, hA⟩ := RQ.done (r := ({ req0 with deed := 5 } : Req)) HQ5.out
      have HA := Lib.hid hA
      have HF := Lib.hid (hA.fin (RQP.no (ws := [w0, t1, t2, t3]) _ HRD.out))
      obtain ⟨a0, a1, a2, a3, a4, a5, a6, a7, a8, a9, a10, a11⟩ := req_cells hA.row
      clear hA
      clear hU5 hk5
      go_wp2_with (first | (refine wpList_load_mid rfl 39 (.tmp 4) rfl (w.heap.size + 1) 0 rfl A.toList _ HA.out.rg Tryz.underlying39 rfl HA.out.al ?_; rw [Array.toArray_toList]) | (refine wpList_store_rowTo rfl 39 (.tmp 2) (.tmp 125) rfl rfl w.heap.size A rfl rfl 39 (reqA req0) HA.out.res HA.out.sz HA.out.az HA.out.ao ?_))
      refine bodyPost_ret ?_ rfl HF.out
      simp [results, Tryz.results40, go_sem, a0, a1, a2, a3, a4, a5, a6, a7, a8, a9, a10, a11, reqV, reqA, req0]
     | some x =>
      obtain ⟨p, q, g⟩ := x
      have HD1 := Lib.hid (show ∀ W, Calls Tryz.prog 79 #[.string V1] W fun e w' => e = .returned (.tuple #[.agg #[.int .i64 p, .int .u32 q, .int .u8 g], .int .i64 0]) ∧ Later W w' from fun W => by have h := HC1.out W; rw [h1] at h; exact h)
      have HP1 := Lib.hid h1
      clear h1
      obtain ⟨s2, hs2⟩ : ∃ s, (unword t2).getD [] = s := ⟨_, rfl⟩
      obtain ⟨b2, hb2⟩ : ∃ b, (unword t2).isSome = b := ⟨_, rfl⟩
      rw [hs2, hb2] at HC2
      obtain ⟨s3, hs3⟩ : ∃ x, (num t3).getD (-1) = x := ⟨_, rfl⟩
      obtain ⟨b3, hb3⟩ : ∃ b, decide ((0 : Int) ≤ s3) = b := ⟨_, rfl⟩
      rw [hs3] at HC3
      have v3 := HW1.out U1 HQ1.out.later
      go_wp2_with fail
      refine (HD1.out U1).mono ?_
      rintro y4 w4 ⟨rfl, hl4⟩
      have HQ4 := Lib.hid (HQ1.out.after hl4)
      clear hU1 hk1 hcm c2 v3 hl4
      go_upto_region 25 with fail
      obtain ⟨U5, hU5⟩ : ∃ U, w4.alloc (.cells #[.int .i64 p, .int .u32 q, .int .u8 g] 34) = U := ⟨_, rfl⟩
      have hk5 : U5.heap[w4.heap.size]? = some (.cells #[.int .i64 p, .int .u32 q, .int .u8 g] 34 (0, 0)) := by rw [← hU5]; exact (MapKept.heap_alloc _ _).1
      have HQ5 := Lib.hid (show RQ w _ U5 by rw [← hU5]; exact HQ4.out.after ((Later.refl _).alloc _))
      rw [hU5]
      have hb_0 : U5.cell? ⟨w4.heap.size, 0, none⟩ = some (.int .i64 p) := by rw [Lib.cell_of_heap hk5]; rfl
      have hb_1 : U5.cell? ⟨w4.heap.size, 1, none⟩ = some (.int .u32 q) := by rw [Lib.cell_of_heap hk5]; rfl
      have hb_2 : U5.cell? ⟨w4.heap.size, 2, none⟩ = some (.int .u8 g) := by rw [Lib.cell_of_heap hk5]; rfl
      have c6 : U5.cell? ⟨w.heap.size + 1, 1, none⟩ = some (.int .i64 0) := by rw [Lib.cell_of_heap HQ5.out.row]; rfl
      have c7 : U5.cell? ⟨w.heap.size + 1, 2, none⟩ = some (.int .u32 0) := by rw [Lib.cell_of_heap HQ5.out.row]; rfl
      have c8 : U5.cell? ⟨w.heap.size + 1, 3, none⟩ = some (.int .u8 0) := by rw [Lib.cell_of_heap HQ5.out.row]; rfl
      have z9 : U5.frozen? ⟨w.heap.size + 1, 1, none⟩ = false := Lib.frozen_of_heap HQ5.out.row 1
      have z10 : U5.frozen? ⟨w.heap.size + 1, 2, none⟩ = false := Lib.frozen_of_heap HQ5.out.row 2
      have z11 : U5.frozen? ⟨w.heap.size + 1, 3, none⟩ = false := Lib.frozen_of_heap HQ5.out.row 3
      go_upto_region 28 with fail
      obtain ⟨U12, hU12⟩ : ∃ U, (((U5.setCell ⟨w.heap.size + 1, 1, none⟩ (.int .i64 p)).setCell ⟨w.heap.size + 1, 2, none⟩ (.int .u32 q)).setCell ⟨w.heap.size + 1, 3, none⟩ (.int .u8 g)) = U := ⟨_, rfl⟩
      have HQ12 := Lib.hid (show RQ w (reqA ({ req0 with deed := 5, ht := p, hg := q, hr := g } : Req)) U12 by rw [← hU12]; exact (((HQ5.out.set 1 (.int .i64 p)).set 2 (.int .u32 q)).set 3 (.int .u8 g)))
      rw [hU12]
      clear hU5 hk5 hb_0 hb_1 hb_2 c6 c7 c8 z9 z10 z11 hU12
      have v13 := HW2.out U12 HQ12.out.later
      go_wp2_with fail
      refine (HC2.out U12).mono ?_
      rintro y14 w14 ⟨rfl, hl14⟩
      have HQ14 := Lib.hid (HQ12.out.after hl14)
      clear v13 hl14
      have c15 : w14.cell? ⟨w.heap.size + 1, 4, none⟩ = some (.string ⟨#[]⟩) := by rw [Lib.cell_of_heap HQ14.out.row]; rfl
      have z16 : w14.frozen? ⟨w.heap.size + 1, 4, none⟩ = false := Lib.frozen_of_heap HQ14.out.row 4
      go_upto_region 32 with fail
      obtain ⟨U17, hU17⟩ : ∃ U, (w14.setCell ⟨w.heap.size + 1, 4, none⟩ (.string ⟨s2.toArray⟩)) = U := ⟨_, rfl⟩
      have HQ17 := Lib.hid (show RQ w (reqA ({ req0 with deed := 5, ht := p, hg := q, hr := g, key := s2 } : Req)) U17 by rw [← hU17]; exact (HQ14.out.set 4 (.string ⟨s2.toArray⟩)))
      rw [hU17]
      clear c15 z16 hU17
      have c18 : U17.cell? ⟨w.heap.size + 1, 0, none⟩ = some (.int .i64 5) := by rw [Lib.cell_of_heap HQ17.out.row]; rfl
      have v19 := HW3.out U17 HQ17.out.later
      go_wp2_with fail
      refine (HC3.out U17).mono ?_
      rintro y20 w20 ⟨rfl, hl20⟩
      have HQ20 := Lib.hid (HQ17.out.after hl20)
      clear c18 v19 hl20
      have c21 : w20.cell? ⟨w.heap.size + 1, 7, none⟩ = some (.int .i64 0) := by rw [Lib.cell_of_heap HQ20.out.row]; rfl
      have z22 : w20.frozen? ⟨w.heap.size + 1, 7, none⟩ = false := Lib.frozen_of_heap HQ20.out.row 7
      go_upto_region 45 with fail
      obtain ⟨U23, hU23⟩ : ∃ U, (w20.setCell ⟨w.heap.size + 1, 7, none⟩ (.int .i64 s3)) = U := ⟨_, rfl⟩
      have HQ23 := Lib.hid (show RQ w (reqA ({ req0 with deed := 5, ht := p, hg := q, hr := g, key := s2, lim := s3 } : Req)) U23 by rw [← hU23]; exact (HQ20.out.set 7 (.int .i64 s3)))
      rw [hU23]
      clear c21 z22 hU23
      have c24 : U23.cell? ⟨w.heap.size + 1, 7, none⟩ = some (.int .i64 s3) := by rw [Lib.cell_of_heap HQ23.out.row]; rfl
      obtain ⟨A, hA⟩ := RQ.done (r := ({ req0 with deed := 5, ht := p, hg := q, hr := g, key := s2, lim := s3 } : Req)) HQ23.out
      have HA := Lib.hid hA
      have HF := Lib.hid (hA.fin (show RQP [w0, t1, t2, t3] ({ req0 with deed := 5, ht := p, hg := q, hr := g, key := s2, lim := s3 } : Req) (b2 && b3) by rw [← hb3]; rw [← hs2]; rw [← hb2]; rw [← hs3]; exact rqP5 HP1.out HNW.out))
      obtain ⟨a0, a1, a2, a3, a4, a5, a6, a7, a8, a9, a10, a11⟩ := req_cells hA.row
      clear hA
      cases b2 <;> cases b3
      all_goals go_upto_region 46 with fail
      all_goals clear c24
      all_goals
       go_wp2_with (first | (refine wpList_load_mid rfl 39 (.tmp 4) rfl (w.heap.size + 1) 0 rfl A.toList _ HA.out.rg Tryz.underlying39 rfl HA.out.al ?_; rw [Array.toArray_toList]) | (refine wpList_store_rowTo rfl 39 (.tmp 2) (.tmp 197) rfl rfl w.heap.size A rfl rfl 39 (reqA req0) HA.out.res HA.out.sz HA.out.az HA.out.ao ?_))
       refine bodyPost_ret ?_ rfl HF.out
       simp [results, Tryz.results40, go_sem, a0, a1, a2, a3, a4, a5, a6, a7, a8, a9, a10, a11, reqV, reqA, req0]
    ·have hL4 : L = 2 := by rw [hLm, ← hm]; rfl
     subst hL4
     clear hLm hm hd1 hd10
     obtain ⟨t1, hrest⟩ := list1 rest (by have := HLN.out; omega)
     subst hrest
     obtain ⟨V1, hV1⟩ : ∃ V : ByteArray, ⟨t1.toArray⟩ = V := ⟨_, rfl⟩
     have HW1 := Lib.hid (show ∀ W, Later w W → W.cell? ⟨X, off + 1, none⟩ = some (.string V1) from fun W hl => by rw [← hV1]; exact HCS.out W hl 1 (by simp))
     have hd1 : V1.data.toList = t1 := by rw [← hV1]
     have hs1 : V1.size ≤ 100000000 := by rw [← hV1, size_mk]; have := HSM.out; simp [sumL] at this; omega
     clear hV1
     have HC1 := Lib.hid (fun W => rRd hd1 (by omega) W)
     clear hd1 hs1
     go_upto_region 9 with fail
     obtain ⟨U1, hU1⟩ : ∃ U, wk.alloc (.cells #[.int .i64 (-1), .int .i64 2, .int .i64 3, .int .i64 2, .int .i64 4, .int .i64 3, .int .i64 1, .int .i64 3, .int .i64 1, .int .i64 2, .int .i64 1] 3) = U := ⟨_, rfl⟩
     have hk1 : U1.heap[wk.heap.size]? = some (.cells #[.int .i64 (-1), .int .i64 2, .int .i64 3, .int .i64 2, .int .i64 4, .int .i64 3, .int .i64 1, .int .i64 3, .int .i64 1, .int .i64 2, .int .i64 1] 3 (0, 0)) := by rw [← hU1]; exact (MapKept.heap_alloc _ _).1
     have HQ1 := Lib.hid (show RQ w _ U1 by rw [← hU1]; exact HQ.out.after ((Later.refl _).alloc _))
     rw [hU1]
     have hcm : U1.cell? ⟨wk.heap.size, 6, none⟩ = some (.int .i64 1) := by rw [Lib.cell_of_heap hk1]; rfl
     have c2 : U1.cell? ⟨w.heap.size + 1, 0, none⟩ = some (.int .i64 6) := by rw [Lib.cell_of_heap HQ1.out.row]; rfl
     cases h1 : rdH t1 with
     | none =>
      have HD1 := Lib.hid (show ∀ W, Calls Tryz.prog 79 #[.string V1] W fun e w' => e = .returned (.tuple #[.agg #[.int .i64 0, .int .u32 0, .int .u8 0], .int .i64 7]) ∧ Later W w' from fun W => by have h := HC1.out W; rw [h1] at h; exact h)
      have HRD := Lib.hid (show readR [w0, t1] = none by rw [readR_of (d := 6) (by decide) HNW.out]; simp [fldsN, foldF, stepF, h1])
      clear h1
      have v3 := HW1.out U1 HQ1.out.later
      go_wp2_with fail
      refine (HD1.out U1).mono ?_
      rintro y4 w4 ⟨rfl, hl4⟩
      have HQ4 := Lib.hid (HQ1.out.after hl4)
      clear hU1 hk1 hcm c2 v3 hl4
      go_upto_region 25 with fail
      obtain ⟨U5, hU5⟩ : ∃ U, w4.alloc (.cells #[.int .i64 0, .int .u32 0, .int .u8 0] 34) = U := ⟨_, rfl⟩
      have hk5 : U5.heap[w4.heap.size]? = some (.cells #[.int .i64 0, .int .u32 0, .int .u8 0] 34 (0, 0)) := by rw [← hU5]; exact (MapKept.heap_alloc _ _).1
      have HQ5 := Lib.hid (show RQ w _ U5 by rw [← hU5]; exact HQ4.out.after ((Later.refl _).alloc _))
      rw [hU5]
      go_upto_region 26 with fail
      obtain ⟨A, hA⟩ := RQ.done (r := ({ req0 with deed := 6 } : Req)) HQ5.out
      have HA := Lib.hid hA
      have HF := Lib.hid (hA.fin (RQP.no (ws := [w0, t1]) _ HRD.out))
      obtain ⟨a0, a1, a2, a3, a4, a5, a6, a7, a8, a9, a10, a11⟩ := req_cells hA.row
      clear hA
      clear hU5 hk5
      go_wp2_with (first | (refine wpList_load_mid rfl 39 (.tmp 4) rfl (w.heap.size + 1) 0 rfl A.toList _ HA.out.rg Tryz.underlying39 rfl HA.out.al ?_; rw [Array.toArray_toList]) | (refine wpList_store_rowTo rfl 39 (.tmp 2) (.tmp 125) rfl rfl w.heap.size A rfl rfl 39 (reqA req0) HA.out.res HA.out.sz HA.out.az HA.out.ao ?_))
      refine bodyPost_ret ?_ rfl HF.out
      simp [results, Tryz.results40, go_sem, a0, a1, a2, a3, a4, a5, a6, a7, a8, a9, a10, a11, reqV, reqA, req0]
     | some x =>
      obtain ⟨p, q, g⟩ := x
      have HD1 := Lib.hid (show ∀ W, Calls Tryz.prog 79 #[.string V1] W fun e w' => e = .returned (.tuple #[.agg #[.int .i64 p, .int .u32 q, .int .u8 g], .int .i64 0]) ∧ Later W w' from fun W => by have h := HC1.out W; rw [h1] at h; exact h)
      have HP1 := Lib.hid h1
      clear h1
      have v3 := HW1.out U1 HQ1.out.later
      go_wp2_with fail
      refine (HD1.out U1).mono ?_
      rintro y4 w4 ⟨rfl, hl4⟩
      have HQ4 := Lib.hid (HQ1.out.after hl4)
      clear hU1 hk1 hcm c2 v3 hl4
      go_upto_region 25 with fail
      obtain ⟨U5, hU5⟩ : ∃ U, w4.alloc (.cells #[.int .i64 p, .int .u32 q, .int .u8 g] 34) = U := ⟨_, rfl⟩
      have hk5 : U5.heap[w4.heap.size]? = some (.cells #[.int .i64 p, .int .u32 q, .int .u8 g] 34 (0, 0)) := by rw [← hU5]; exact (MapKept.heap_alloc _ _).1
      have HQ5 := Lib.hid (show RQ w _ U5 by rw [← hU5]; exact HQ4.out.after ((Later.refl _).alloc _))
      rw [hU5]
      have hb_0 : U5.cell? ⟨w4.heap.size, 0, none⟩ = some (.int .i64 p) := by rw [Lib.cell_of_heap hk5]; rfl
      have hb_1 : U5.cell? ⟨w4.heap.size, 1, none⟩ = some (.int .u32 q) := by rw [Lib.cell_of_heap hk5]; rfl
      have hb_2 : U5.cell? ⟨w4.heap.size, 2, none⟩ = some (.int .u8 g) := by rw [Lib.cell_of_heap hk5]; rfl
      have c6 : U5.cell? ⟨w.heap.size + 1, 1, none⟩ = some (.int .i64 0) := by rw [Lib.cell_of_heap HQ5.out.row]; rfl
      have c7 : U5.cell? ⟨w.heap.size + 1, 2, none⟩ = some (.int .u32 0) := by rw [Lib.cell_of_heap HQ5.out.row]; rfl
      have c8 : U5.cell? ⟨w.heap.size + 1, 3, none⟩ = some (.int .u8 0) := by rw [Lib.cell_of_heap HQ5.out.row]; rfl
      have z9 : U5.frozen? ⟨w.heap.size + 1, 1, none⟩ = false := Lib.frozen_of_heap HQ5.out.row 1
      have z10 : U5.frozen? ⟨w.heap.size + 1, 2, none⟩ = false := Lib.frozen_of_heap HQ5.out.row 2
      have z11 : U5.frozen? ⟨w.heap.size + 1, 3, none⟩ = false := Lib.frozen_of_heap HQ5.out.row 3
      go_upto_region 28 with fail
      obtain ⟨U12, hU12⟩ : ∃ U, (((U5.setCell ⟨w.heap.size + 1, 1, none⟩ (.int .i64 p)).setCell ⟨w.heap.size + 1, 2, none⟩ (.int .u32 q)).setCell ⟨w.heap.size + 1, 3, none⟩ (.int .u8 g)) = U := ⟨_, rfl⟩
      have HQ12 := Lib.hid (show RQ w (reqA ({ req0 with deed := 6, ht := p, hg := q, hr := g } : Req)) U12 by rw [← hU12]; exact (((HQ5.out.set 1 (.int .i64 p)).set 2 (.int .u32 q)).set 3 (.int .u8 g)))
      rw [hU12]
      clear hU5 hk5 hb_0 hb_1 hb_2 c6 c7 c8 z9 z10 z11 hU12
      go_upto_region 29 with fail
      obtain ⟨A, hA⟩ := RQ.done (r := ({ req0 with deed := 6, ht := p, hg := q, hr := g } : Req)) HQ12.out
      have HA := Lib.hid hA
      have HF := Lib.hid (hA.fin (show RQP [w0, t1] ({ req0 with deed := 6, ht := p, hg := q, hr := g } : Req) true from rqP6 HP1.out HNW.out))
      obtain ⟨a0, a1, a2, a3, a4, a5, a6, a7, a8, a9, a10, a11⟩ := req_cells hA.row
      clear hA
      go_wp2_with (first | (refine wpList_load_mid rfl 39 (.tmp 4) rfl (w.heap.size + 1) 0 rfl A.toList _ HA.out.rg Tryz.underlying39 rfl HA.out.al ?_; rw [Array.toArray_toList]) | (refine wpList_store_rowTo rfl 39 (.tmp 2) (.tmp 130) rfl rfl w.heap.size A rfl rfl 39 (reqA req0) HA.out.res HA.out.sz HA.out.az HA.out.ao ?_))
      refine bodyPost_ret ?_ rfl HF.out
      simp [results, Tryz.results40, go_sem, a0, a1, a2, a3, a4, a5, a6, a7, a8, a9, a10, a11, reqV, reqA, req0]
   ·obtain ⟨q, hq⟩ : ∃ q : Nat, L = q + 1 := ⟨L - 1, by have := HLP.out; omega⟩
    have a1 : IntKind.i64.wrap ((L : Int) - 1) = (q : Int) := by
     rw [show (L : Int) - 1 = (q : Int) by omega]
     exact IntWalk.i64_in _ (by have := HLB.out; omega)
    have tq : ((q : Int) != (m : Int)) = true := by simp; omega
    have tq2 : ((q : Int) == (m : Int)) = false := by simp; omega
    have tq3 : (q == m) = false := by simp; omega
    have tz : ((dd : Int) == 0) = false := by simp; omega
    have tz2 : (dd == 0) = false := by simp; omega
    have hd11 : (dd : Int) < 11 := by omega
    have HRD := Lib.hid (show readR (w0 :: rest) = none by rw [readR_of ⟨hd1, hd10⟩ HNW.out]; exact foldF_no _ _ _ (by have h1 := HLN.out; rw [hm]; omega))
    have HMM := Lib.hid (And.intro (And.intro hd1 hd10) hm)
    clear hq hLm hm hd1 hd10
    go_upto_region 9 with fail
    obtain ⟨U1, hU1⟩ : ∃ U, wk.alloc (.cells #[.int .i64 (-1), .int .i64 2, .int .i64 3, .int .i64 2, .int .i64 4, .int .i64 3, .int .i64 1, .int .i64 3, .int .i64 1, .int .i64 2, .int .i64 1] 3) = U := ⟨_, rfl⟩
    have hk1 : U1.heap[wk.heap.size]? = some (.cells #[.int .i64 (-1), .int .i64 2, .int .i64 3, .int .i64 2, .int .i64 4, .int .i64 3, .int .i64 1, .int .i64 3, .int .i64 1, .int .i64 2, .int .i64 1] 3 (0, 0)) := by rw [← hU1]; exact (MapKept.heap_alloc _ _).1
    have HQ1 := Lib.hid (show RQ w _ U1 by rw [← hU1]; exact HQ.out.after ((Later.refl _).alloc _))
    rw [hU1]
    have hcm : U1.cell? ⟨wk.heap.size, dd, none⟩ = some (.int .i64 (m : Int)) := by rw [Lib.cell_of_heap hk1, ← HMM.out.2]; exact many_at dd HMM.out.1
    have c2 : U1.cell? ⟨w.heap.size + 1, 0, none⟩ = some (.int .i64 (dd : Int)) := by rw [Lib.cell_of_heap HQ1.out.row]; rfl
    go_upto_region 10 with fail
    obtain ⟨A, hA⟩ := RQ.done (r := ({ req0 with deed := (dd : Int) } : Req)) HQ1.out
    have HA := Lib.hid hA
    have HF := Lib.hid (hA.fin (RQP.no _ HRD.out))
    obtain ⟨a0, a1, a2, a3, a4, a5, a6, a7, a8, a9, a10, a11⟩ := req_cells hA.row
    clear hA
    clear hU1 hk1 hcm c2
    go_wp2_with (first | (refine wpList_load_mid rfl 39 (.tmp 4) rfl (w.heap.size + 1) 0 rfl A.toList _ HA.out.rg Tryz.underlying39 rfl HA.out.al ?_; rw [Array.toArray_toList]) | (refine wpList_store_rowTo rfl 39 (.tmp 2) (.tmp 55) rfl rfl w.heap.size A rfl rfl 39 (reqA req0) HA.out.res HA.out.sz HA.out.az HA.out.ao ?_))
    refine bodyPost_ret ?_ rfl HF.out
    simp [results, Tryz.results40, go_sem, a0, a1, a2, a3, a4, a5, a6, a7, a8, a9, a10, a11, reqV, reqA, req0]
end Go.Proofs.YtkbedajbbakihaaGreatDoor
