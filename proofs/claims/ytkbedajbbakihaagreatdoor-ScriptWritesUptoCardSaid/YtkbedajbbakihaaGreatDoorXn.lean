/-
 Texts of this proof, put together (Wq2R): each part's first words say what it holds. Conditions: as each part says.
-/
import Derived.Test.YtkbedajbbakihaaGreatDoorYu
import Derived.Test.YtkbedajbbakihaaGreatDoorXk
/-
 The reference's words of a request, walked (more deeds). Conditions: the request's fields fit.
-/
namespace Go.Proofs.YtkbedajbbakihaaGreatDoor
open Go.RowKit Go.Sort Go.Lib
set_option linter.unusedSimpArgs false
set_option linter.unusedVariables false
set_option maxRecDepth 100000 in
set_option maxHeartbeats 8000000 in
theorem refWords_A4 (r : Req) (hr : r.fit) (hd : r.deed = 4) (ho : okH r.ht r.hg r.hr = true) (w : World) : Calls Tryz.prog 63 #[reqV r] w (WEnd r w) := by
 obtain ⟨d, ht, hg, hrr, key, val, old, lim, ten, qk, qb, rts⟩ := r
 have f1 := hr.hr
 have f2 := hr.rts
 have f3 := hr.ten
 have f4 := hr.hg
 have f5 := hr.qk
 have f6 := hr.qb
 have f7 := hr.lim
 have f8 := hr.len
 have f9 := hr.deed
 dsimp only at f1 f2 f3 f4 f5 f6 f7 f8 f9 hd ho ⊢
 subst hd
 obtain ⟨K, hK⟩ : ∃ K : ByteArray, ⟨key.toArray⟩ = K := ⟨_, rfl⟩
 obtain ⟨Vb, hVb⟩ : ∃ V : ByteArray, ⟨val.toArray⟩ = V := ⟨_, rfl⟩
 obtain ⟨O, hO⟩ : ∃ O : ByteArray, ⟨old.toArray⟩ = O := ⟨_, rfl⟩
 have hA : reqA ⟨4, ht, hg, hrr, key, val, old, lim, ten, qk, qb, rts⟩ = #[.int .i64 4, .int .i64 ht, .int .u32 hg, .int .u8 hrr, .string K, .string Vb, .string O, .int .i64 lim, .int .i64 ten, .int .u64 qk, .int .u64 qb, .int .u8 rts] := by rw [← hK, ← hVb, ← hO]; rfl
 have hks : K.size = key.length := by rw [← hK, size_mk]
 have hvs : Vb.size = val.length := by rw [← hVb, size_mk]
 have hos : O.size = old.length := by rw [← hO, size_mk]
 have hkd : K.data.toList = key := by rw [← hK]
 have hvd : Vb.data.toList = val := by rw [← hVb]
 have hod : O.data.toList = old := by rw [← hO]
 have HC := Lib.hid (show ∀ (U : World) (b : Nat), U.heap[b]? = some (.cells #[.int .i64 4, .int .i64 ht, .int .u32 hg, .int .u8 hrr, .string K, .string Vb, .string O, .int .i64 lim, .int .i64 ten, .int .u64 qk, .int .u64 qb, .int .u8 rts] 39 (0, 0)) → U.cell? ⟨b, 0, none⟩ = some (.int .i64 4) ∧ U.cell? ⟨b, 1, none⟩ = some (.int .i64 ht) ∧ U.cell? ⟨b, 2, none⟩ = some (.int .u32 hg) ∧ U.cell? ⟨b, 3, none⟩ = some (.int .u8 hrr) ∧ U.cell? ⟨b, 4, none⟩ = some (.string K) ∧ U.cell? ⟨b, 5, none⟩ = some (.string Vb) ∧ U.cell? ⟨b, 6, none⟩ = some (.string O) ∧ U.cell? ⟨b, 7, none⟩ = some (.int .i64 lim) ∧ U.cell? ⟨b, 8, none⟩ = some (.int .i64 ten) ∧ U.cell? ⟨b, 9, none⟩ = some (.int .u64 qk) ∧ U.cell? ⟨b, 10, none⟩ = some (.int .u64 qb) ∧ U.cell? ⟨b, 11, none⟩ = some (.int .u8 rts) from fun U b h => by
  refine ⟨?_, ?_, ?_, ?_, ?_, ?_, ?_, ?_, ?_, ?_, ?_, ?_⟩ <;> (rw [Lib.cell_of_heap h]; rfl))
 obtain ⟨tn, htn⟩ : ∃ tn : Int, IntKind.u64.wrap ten = tn := ⟨_, rfl⟩
 have htb : 0 ≤ tn ∧ tn ≤ 18446744073709551615 := by rw [← htn, IntKind.wrap_u64]; omega
 obtain ⟨Td, hTd⟩ : ∃ T : ByteArray, ⟨(Lib.decDigits tn.toNat).toArray⟩ = T := ⟨_, rfl⟩
 have HDT := Lib.hid (show ∀ W0, Calls Tryz.prog 71 #[.int .u64 tn] W0 fun e w' => e = .returned (.string Td) ∧ Later W0 w' from fun W0 => by
  have h := refDec_is tn.toNat (by omega) W0
  rw [Int.toNat_of_nonneg htb.1, hTd] at h
  exact h)
 unfold reqV
 rw [hA]
 have hob := (okH_iff _ _ _).1 ho
 obtain ⟨S, hS⟩ : ∃ S : ByteArray, ⟨(showH ht.toNat hg.toNat hrr).toArray⟩ = S := ⟨_, rfl⟩
 have HSH := Lib.hid (show ∀ W0, Calls Tryz.prog 117 #[.agg #[.int .i64 ht, .int .u32 hg, .int .u8 hrr]] W0 fun e w' => e = .returned (.tuple #[.string S, .int .i64 0]) ∧ Later W0 w' from fun W0 => by
  have h := refShow_yes ht.toNat hg.toNat hrr W0 (by rw [Int.toNat_of_nonneg (by omega), Int.toNat_of_nonneg (by omega)]; exact ho) (by omega)
  rw [Int.toNat_of_nonneg (by omega), Int.toNat_of_nonneg (by omega), hS] at h
  exact h)
 obtain ⟨B, hB⟩ : ∃ B, w.heap.size = B := ⟨_, rfl⟩
 have hk0 : (w.alloc (.cells #[.int .i64 4, .int .i64 ht, .int .u32 hg, .int .u8 hrr, .string K, .string Vb, .string O, .int .i64 lim, .int .i64 ten, .int .u64 qk, .int .u64 qb, .int .u8 rts] 39)).heap[w.heap.size]? = some (.cells #[.int .i64 4, .int .i64 ht, .int .u32 hg, .int .u8 hrr, .string K, .string Vb, .string O, .int .i64 lim, .int .i64 ten, .int .u64 qk, .int .u64 qb, .int .u8 rts] 39 (0, 0)) := (MapKept.heap_alloc w _).1
 have HK0 := Lib.hid hk0
 have HBB := Lib.hid hB
 have HO := Lib.hid (And.intro ho (And.intro hS hob))
 clear ho hS hob
 have HKK := Lib.hid (And.intro hks (And.intro hvs (And.intro hos (And.intro hkd (And.intro hvd hod)))))
 have HF8 := Lib.hid f8
 clear hk0 hB htb hks hvs hos hkd hvd hod hK hVb hO hA f1 f2 f3 f4 f5 f6 f8 f9
 go_enter Tryz.func63, Tryz.ntmps63
 go_wp2_with fail
 refine (HSH.out _).mono ?_
 rintro y1 w1 ⟨rfl, hl1⟩
 have hk1 := (hl1.block _ (Array.getElem?_eq_some_iff.1 HK0.out).1).trans HK0.out
 have HL1 := Lib.hid (((Later.refl w).alloc _).trans hl1)
 have HK1 := Lib.hid hk1
 obtain ⟨e0, e1, e2, e3, e4, e5, e6, e7, e8, e9, e10, e11⟩ := HC.out w1 w.heap.size hk1
 clear hl1 hk1
 go_wp2_with fail
 refine (HDT.out _).mono ?_
 rintro y2 w2 ⟨rfl, hl2⟩
 obtain ⟨V2, hV2⟩ : ∃ V, w2.alloc (.cells #[.string Td] 9) = V := ⟨_, rfl⟩
 have hl3 : Later w1 V2 := by rw [← hV2]; exact hl2.alloc _
 have hk2 := (hl3.block _ (Array.getElem?_eq_some_iff.1 HK1.out).1).trans HK1.out
 have hz : V2.heap[w2.heap.size]? = some (.cells #[.string Td] 9 (0, 0)) := by rw [← hV2]; exact (MapKept.heap_alloc w2 _).1
 have HV2 := Lib.hid hV2
 have HW12 := Lib.hid hl2
 have HZ := Lib.hid hz
 have HK2 := Lib.hid hk2
 have HL3 := Lib.hid (HL1.out.trans hl3)
 clear hl2 hl3 hz hV2 e0 e1 e2 e3 e4 e5 e6 e7 e8 e9 e10 e11
 obtain ⟨e0, e1, e2, e3, e4, e5, e6, e7, e8, e9, e10, e11⟩ := HC.out V2 w.heap.size hk2
 clear hk2
 go_upto_region 3 with fail
 rw [HV2.out]
 obtain ⟨WK, hWK⟩ : ∃ T : ByteArray, ⟨(word key).toArray⟩ = T := ⟨_, rfl⟩
 have HWK := Lib.hid (show ∀ W0, Calls Tryz.prog 13 #[.string K] W0 fun e w' => e = .returned (.string WK) ∧ Later W0 w' from fun W0 => by
  have h := refWord_is K (by have := HKK.out.1; have := HF8.out; omega) W0
  rw [HKK.out.2.2.2.1, hWK] at h
  exact h)
 have EWK := Lib.hid hWK
 clear hWK
 obtain ⟨WV, hWV⟩ : ∃ T : ByteArray, ⟨(word val).toArray⟩ = T := ⟨_, rfl⟩
 have HWV := Lib.hid (show ∀ W0, Calls Tryz.prog 13 #[.string Vb] W0 fun e w' => e = .returned (.string WV) ∧ Later W0 w' from fun W0 => by
  have h := refWord_is Vb (by have := HKK.out.2.1; have := HF8.out; omega) W0
  rw [HKK.out.2.2.2.2.1, hWV] at h
  exact h)
 have EWV := Lib.hid hWV
 clear hWV
 obtain ⟨WO, hWO⟩ : ∃ T : ByteArray, ⟨(word old).toArray⟩ = T := ⟨_, rfl⟩
 have HWO := Lib.hid (show ∀ W0, Calls Tryz.prog 13 #[.string O] W0 fun e w' => e = .returned (.string WO) ∧ Later W0 w' from fun W0 => by
  have h := refWord_is O (by have := HKK.out.2.2.1; have := HF8.out; omega) W0
  rw [HKK.out.2.2.2.2.2, hWO] at h
  exact h)
 have EWO := Lib.hid hWO
 clear hWO
 have HW2 := Lib.hid e4
 have HW3 := Lib.hid e5
 have HW4 := Lib.hid e6
 go_wp2_with fail
 clear e0 e1 e2 e3 e4 e5 e6 e7 e8 e9 e10 e11
 refine wp_region_iv mixedW (fun D' a' W' => ∃ x0 x1 x2 x3 x4 x5 x6 x7 x8 x9 x10 y2 y3, a' = ⟨#[Value.agg #[Value.int IntKind.i64 4, Value.int IntKind.i64 ht, Value.int IntKind.u32 hg, Value.int IntKind.u8 hrr, Value.string K, Value.string Vb, Value.string O, Value.int IntKind.i64 lim, Value.int IntKind.i64 ten, Value.int IntKind.u64 qk, Value.int IntKind.u64 qb, Value.int IntKind.u8 rts], Value.pointer (some { block := w.heap.size, off := 0 }), y2, y3, Value.string S, Value.int IntKind.i64 0, Value.slice (some { block := w2.heap.size, off := 0 }) 1 1, undef, undef, Value.tuple #[Value.string S, Value.int IntKind.i64 0], Value.pointer (some { block := w.heap.size, off := 1 }), Value.agg #[Value.int IntKind.i64 ht, Value.int IntKind.u32 hg, Value.int IntKind.u8 hrr], Value.tuple #[Value.string S, Value.int IntKind.i64 0], Value.string S, Value.int IntKind.i64 0, Value.pointer (some { block := w.heap.size, off := 8 }), Value.int IntKind.i64 ten, Value.int IntKind.u64 tn, Value.string Td, Value.slice (some { block := w2.heap.size, off := 0 }) 1 1, Value.pointer (some { block := w.heap.size, off := 0 }), Value.int IntKind.i64 4, Value.bool true, Value.bool true, Value.pointer (some { block := w.heap.size, off := 0 }), Value.int IntKind.i64 4, Value.bool true, Value.bool true, Value.bool true, Value.int IntKind.i64 0, Value.bool false, Value.bool false, Value.bool false, Value.pointer (some { block := w.heap.size, off := 0 }), Value.int IntKind.i64 4, Value.bool false, Value.bool false, undef, undef, undef, undef, undef, undef, undef, undef, Value.bool false, Value.bool false, Value.pointer (some { block := w.heap.size, off := 0 }), Value.int IntKind.i64 4, Value.bool false, Value.bool false, Value.bool false, undef, undef, undef, undef, undef, Value.bool false, Value.bool false, undef, undef, undef, undef, undef, undef, undef, undef, Value.bool true, Value.bool true, x0, x1, x2, x3, x4, x5, x6, x7, x8, x9, x10, undef, undef, undef, undef, undef, undef, undef, undef, undef, undef, undef, undef, undef, undef, undef, undef, undef, undef, undef, undef, undef, undef, undef, undef, undef, undef, undef, undef, undef, undef, undef, undef, undef, undef, undef, undef, undef, undef, undef, undef, undef, undef, undef, undef, undef, undef, undef, undef, undef, undef, undef, undef, undef], []⟩ ∧ (Later V2 W') ∧ (D' 10 = true → ∃ Z, x10 = .slice (some ⟨Z, 0, none⟩) 4 4 ∧ W'.heap[Z]? = some (.cells #[.string S, .string WK, .string WO, .string WV] 9 (0, 0))) ∧ (D' 0 = true → x0 = .string S) ∧ (D' 1 = true → x1 = .pointer (some ⟨w.heap.size, 4, none⟩)) ∧ (D' 2 = true → x2 = .string K) ∧ (D' 3 = true → x3 = .string WK) ∧ (D' 4 = true → x4 = .pointer (some ⟨w.heap.size, 6, none⟩)) ∧ (D' 5 = true → x5 = .string O) ∧ (D' 6 = true → x6 = .string WO) ∧ (D' 7 = true → x7 = .pointer (some ⟨w.heap.size, 5, none⟩)) ∧ (D' 8 = true → x8 = .string Vb) ∧ (D' 9 = true → x9 = .string WV) ∧ (D' 11 = true → y2 = x10) ∧ (D' 12 = true → y3 = .bool true)) (by kernel_rfl) ?_ ?_ ?_
 ·exact ⟨_, _, _, _, _, _, _, _, _, _, _, _, _, rfl, (Later.refl V2).drew, (fun h => by cases h), (fun h => by cases h), (fun h => by cases h), (fun h => by cases h), (fun h => by cases h), (fun h => by cases h), (fun h => by cases h), (fun h => by cases h), (fun h => by cases h), (fun h => by cases h), (fun h => by cases h), (fun h => by cases h), (fun h => by cases h)⟩
 ·intro i D' a' W' hi hDi hdep hcl hI
  obtain ⟨x0, x1, x2, x3, x4, x5, x6, x7, x8, x9, x10, y2, y3, rfl, gL, gB, f0, f1, f2, f3, f4, f5, f6, f7, f8, f9, f11, f12⟩ := hI
  have hi' : i = 0 ∨ i = 1 ∨ i = 2 ∨ i = 3 ∨ i = 4 ∨ i = 5 ∨ i = 6 ∨ i = 7 ∨ i = 8 ∨ i = 9 ∨ i = 10 ∨ i = 11 ∨ i = 12 := by
   have : i < 13 := hi
   omega
  rcases hi' with rfl | rfl | rfl | rfl | rfl | rfl | rfl | rfl | rfl | rfl | rfl | rfl | rfl
  ·skip
   refine wpOp_step rfl (fun K' hK' => ?_)
   rw [if_pos (by rfl)]
   go_simp
   exact hK' _ _ ⟨_, x1, x2, x3, x4, x5, x6, x7, x8, x9, x10, y2, y3, rfl, gL, gB, (fun _ => rfl), f1, f2, f3, f4, f5, f6, f7, f8, f9, f11, f12⟩
  ·skip
   refine wpOp_step rfl (fun K' hK' => ?_)
   rw [if_pos (by rfl)]
   go_simp
   exact hK' _ _ ⟨x0, _, x2, x3, x4, x5, x6, x7, x8, x9, x10, y2, y3, rfl, gL, gB, f0, (fun _ => rfl), f2, f3, f4, f5, f6, f7, f8, f9, f11, f12⟩
  ·have q1 := f1 (hdep 1 (by kernel_rfl))
   subst q1
   have hc := cell_at gL HW2.out (cell_lt HW2.out)
   refine wpOp_step rfl (fun K' hK' => ?_)
   rw [if_pos (by rfl)]
   go_simp
   exact hK' _ _ ⟨x0, _, _, x3, x4, x5, x6, x7, x8, x9, x10, y2, y3, rfl, gL, gB, f0, (fun _ => rfl), (fun _ => rfl), f3, f4, f5, f6, f7, f8, f9, f11, f12⟩
  ·have q2 := f2 (hdep 2 (by kernel_rfl))
   subst q2
   refine wpOp_step rfl (fun K' hK' => ?_)
   rw [if_pos (by rfl)]
   go_simp
   refine (HWK.out W').mono ?_
   rintro y8 w8 ⟨rfl, hl1⟩
   exact hK' _ _ ⟨x0, x1, _, _, x4, x5, x6, x7, x8, x9, x10, y2, y3, rfl, (gL.trans hl1), (fun h => by obtain ⟨Z, h1, h2⟩ := gB h; exact ⟨Z, h1, (hl1.block Z (Array.getElem?_eq_some_iff.1 h2).1).trans h2⟩), f0, f1, (fun _ => rfl), (fun _ => rfl), f4, f5, f6, f7, f8, f9, f11, f12⟩
  ·skip
   refine wpOp_step rfl (fun K' hK' => ?_)
   rw [if_pos (by rfl)]
   go_simp
   exact hK' _ _ ⟨x0, x1, x2, x3, _, x5, x6, x7, x8, x9, x10, y2, y3, rfl, gL, gB, f0, f1, f2, f3, (fun _ => rfl), f5, f6, f7, f8, f9, f11, f12⟩
  ·have q4 := f4 (hdep 4 (by kernel_rfl))
   subst q4
   have hc := cell_at gL HW4.out (cell_lt HW4.out)
   refine wpOp_step rfl (fun K' hK' => ?_)
   rw [if_pos (by rfl)]
   go_simp
   exact hK' _ _ ⟨x0, x1, x2, x3, _, _, x6, x7, x8, x9, x10, y2, y3, rfl, gL, gB, f0, f1, f2, f3, (fun _ => rfl), (fun _ => rfl), f6, f7, f8, f9, f11, f12⟩
  ·have q5 := f5 (hdep 5 (by kernel_rfl))
   subst q5
   refine wpOp_step rfl (fun K' hK' => ?_)
   rw [if_pos (by rfl)]
   go_simp
   refine (HWO.out W').mono ?_
   rintro y8 w8 ⟨rfl, hl1⟩
   exact hK' _ _ ⟨x0, x1, x2, x3, x4, _, _, x7, x8, x9, x10, y2, y3, rfl, (gL.trans hl1), (fun h => by obtain ⟨Z, h1, h2⟩ := gB h; exact ⟨Z, h1, (hl1.block Z (Array.getElem?_eq_some_iff.1 h2).1).trans h2⟩), f0, f1, f2, f3, f4, (fun _ => rfl), (fun _ => rfl), f7, f8, f9, f11, f12⟩
  ·skip
   refine wpOp_step rfl (fun K' hK' => ?_)
   rw [if_pos (by rfl)]
   go_simp
   exact hK' _ _ ⟨x0, x1, x2, x3, x4, x5, x6, _, x8, x9, x10, y2, y3, rfl, gL, gB, f0, f1, f2, f3, f4, f5, f6, (fun _ => rfl), f8, f9, f11, f12⟩
  ·have q7 := f7 (hdep 7 (by kernel_rfl))
   subst q7
   have hc := cell_at gL HW3.out (cell_lt HW3.out)
   refine wpOp_step rfl (fun K' hK' => ?_)
   rw [if_pos (by rfl)]
   go_simp
   exact hK' _ _ ⟨x0, x1, x2, x3, x4, x5, x6, _, _, x9, x10, y2, y3, rfl, gL, gB, f0, f1, f2, f3, f4, f5, f6, (fun _ => rfl), (fun _ => rfl), f9, f11, f12⟩
  ·have q8 := f8 (hdep 8 (by kernel_rfl))
   subst q8
   refine wpOp_step rfl (fun K' hK' => ?_)
   rw [if_pos (by rfl)]
   go_simp
   refine (HWV.out W').mono ?_
   rintro y8 w8 ⟨rfl, hl1⟩
   exact hK' _ _ ⟨x0, x1, x2, x3, x4, x5, x6, x7, _, _, x10, y2, y3, rfl, (gL.trans hl1), (fun h => by obtain ⟨Z, h1, h2⟩ := gB h; exact ⟨Z, h1, (hl1.block Z (Array.getElem?_eq_some_iff.1 h2).1).trans h2⟩), f0, f1, f2, f3, f4, f5, f6, f7, (fun _ => rfl), (fun _ => rfl), f11, f12⟩
  ·have q0 := f0 (hdep 0 (by kernel_rfl))
   have q3 := f3 (hdep 3 (by kernel_rfl))
   have q6 := f6 (hdep 6 (by kernel_rfl))
   have q9 := f9 (hdep 9 (by kernel_rfl))
   subst q0
   subst q3
   subst q6
   subst q9
   have hn11 := hcl.no hDi (k := 11) (by decide) (by kernel_rfl)
   refine wpOp_step rfl (fun K' hK' => ?_)
   rw [if_pos (by rfl)]
   go_simp
   exact hK' _ _ ⟨_, x1, x2, _, x4, x5, _, x7, x8, _, _, y2, y3, rfl, (gL.alloc _), (fun _ => ⟨W'.heap.size, rfl, (MapKept.heap_alloc W' _).1⟩), (fun _ => rfl), f1, f2, (fun _ => rfl), f4, f5, (fun _ => rfl), f7, f8, (fun _ => rfl), (fun h => absurd (show D' 11 = true from h) (by rw [hn11]; decide)), f12⟩
  ·skip
   refine wpOp_step rfl (fun K' hK' => ?_)
   rw [if_pos (by rfl)]
   go_simp
   exact hK' _ _ ⟨x0, x1, x2, x3, x4, x5, x6, x7, x8, x9, x10, _, y3, rfl, gL, gB, f0, f1, f2, f3, f4, f5, f6, f7, f8, f9, (fun _ => rfl), f12⟩
  ·skip
   refine wpOp_step rfl (fun K' hK' => ?_)
   rw [if_pos (by rfl)]
   go_simp
   exact hK' _ _ ⟨x0, x1, x2, x3, x4, x5, x6, x7, x8, x9, x10, y2, _, rfl, gL, gB, f0, f1, f2, f3, f4, f5, f6, f7, f8, f9, f11, (fun _ => rfl)⟩
 ·rintro D' a' W' hD' ⟨x0, x1, x2, x3, x4, x5, x6, x7, x8, x9, x10, y2, y3, rfl, gL, gB, f0, f1, f2, f3, f4, f5, f6, f7, f8, f9, f11, f12⟩
  obtain ⟨Z, qZ, hZ⟩ := gB (hD' 10 (by decide))
  have q2 := f11 (hD' 11 (by decide))
  have q3 := f12 (hD' 12 (by decide))
  subst qZ
  subst q2
  subst q3
  have HLF := Lib.hid (HL3.out.trans gL)
  have HZF := Lib.hid hZ
  clear gL gB hZ f0 f1 f2 f3 f4 f5 f6 f7 f8 f9 f11 f12
  go_wp2_with fail
  go_ret2
  exact ⟨HLF.out, _, _, rfl, .inl ⟨rfl, by intro h; simp at h, 4, [showH ht.toNat hg.toNat hrr, word key, word old, word val], rfl, by simp [fldsN, shFs, shF, HO.out.1], _, _, rfl, .inr ⟨Z, 0, rfl, fun j hj => by
   rw [Nat.zero_add, Lib.cell_of_heap HZF.out]
   have hj2 : j = 0 ∨ j = 1 ∨ j = 2 ∨ j = 3 := by simp at hj; omega
   rcases hj2 with rfl | rfl | rfl | rfl
   ·rw [← HO.out.2.1]; rfl
   ·rw [← EWK.out]; rfl
   ·rw [← EWO.out]; rfl
   ·rw [← EWV.out]; rfl⟩⟩⟩
set_option maxRecDepth 100000 in
set_option maxHeartbeats 8000000 in
theorem refWords_A5n (r : Req) (hr : r.fit) (hd : r.deed = 5) (ho : okH r.ht r.hg r.hr = true) (hl : r.lim < 0) (w : World) : Calls Tryz.prog 63 #[reqV r] w (WEnd r w) := by
 obtain ⟨d, ht, hg, hrr, key, val, old, lim, ten, qk, qb, rts⟩ := r
 have f1 := hr.hr
 have f2 := hr.rts
 have f3 := hr.ten
 have f4 := hr.hg
 have f5 := hr.qk
 have f6 := hr.qb
 have f7 := hr.lim
 have f8 := hr.len
 have f9 := hr.deed
 dsimp only at f1 f2 f3 f4 f5 f6 f7 f8 f9 hd ho ⊢
 subst hd
 obtain ⟨K, hK⟩ : ∃ K : ByteArray, ⟨key.toArray⟩ = K := ⟨_, rfl⟩
 obtain ⟨Vb, hVb⟩ : ∃ V : ByteArray, ⟨val.toArray⟩ = V := ⟨_, rfl⟩
 obtain ⟨O, hO⟩ : ∃ O : ByteArray, ⟨old.toArray⟩ = O := ⟨_, rfl⟩
 have hA : reqA ⟨5, ht, hg, hrr, key, val, old, lim, ten, qk, qb, rts⟩ = #[.int .i64 5, .int .i64 ht, .int .u32 hg, .int .u8 hrr, .string K, .string Vb, .string O, .int .i64 lim, .int .i64 ten, .int .u64 qk, .int .u64 qb, .int .u8 rts] := by rw [← hK, ← hVb, ← hO]; rfl
 have hks : K.size = key.length := by rw [← hK, size_mk]
 have hvs : Vb.size = val.length := by rw [← hVb, size_mk]
 have hos : O.size = old.length := by rw [← hO, size_mk]
 have hkd : K.data.toList = key := by rw [← hK]
 have hvd : Vb.data.toList = val := by rw [← hVb]
 have hod : O.data.toList = old := by rw [← hO]
 have HC := Lib.hid (show ∀ (U : World) (b : Nat), U.heap[b]? = some (.cells #[.int .i64 5, .int .i64 ht, .int .u32 hg, .int .u8 hrr, .string K, .string Vb, .string O, .int .i64 lim, .int .i64 ten, .int .u64 qk, .int .u64 qb, .int .u8 rts] 39 (0, 0)) → U.cell? ⟨b, 0, none⟩ = some (.int .i64 5) ∧ U.cell? ⟨b, 1, none⟩ = some (.int .i64 ht) ∧ U.cell? ⟨b, 2, none⟩ = some (.int .u32 hg) ∧ U.cell? ⟨b, 3, none⟩ = some (.int .u8 hrr) ∧ U.cell? ⟨b, 4, none⟩ = some (.string K) ∧ U.cell? ⟨b, 5, none⟩ = some (.string Vb) ∧ U.cell? ⟨b, 6, none⟩ = some (.string O) ∧ U.cell? ⟨b, 7, none⟩ = some (.int .i64 lim) ∧ U.cell? ⟨b, 8, none⟩ = some (.int .i64 ten) ∧ U.cell? ⟨b, 9, none⟩ = some (.int .u64 qk) ∧ U.cell? ⟨b, 10, none⟩ = some (.int .u64 qb) ∧ U.cell? ⟨b, 11, none⟩ = some (.int .u8 rts) from fun U b h => by
  refine ⟨?_, ?_, ?_, ?_, ?_, ?_, ?_, ?_, ?_, ?_, ?_, ?_⟩ <;> (rw [Lib.cell_of_heap h]; rfl))
 obtain ⟨tn, htn⟩ : ∃ tn : Int, IntKind.u64.wrap ten = tn := ⟨_, rfl⟩
 have htb : 0 ≤ tn ∧ tn ≤ 18446744073709551615 := by rw [← htn, IntKind.wrap_u64]; omega
 obtain ⟨Td, hTd⟩ : ∃ T : ByteArray, ⟨(Lib.decDigits tn.toNat).toArray⟩ = T := ⟨_, rfl⟩
 have HDT := Lib.hid (show ∀ W0, Calls Tryz.prog 71 #[.int .u64 tn] W0 fun e w' => e = .returned (.string Td) ∧ Later W0 w' from fun W0 => by
  have h := refDec_is tn.toNat (by omega) W0
  rw [Int.toNat_of_nonneg htb.1, hTd] at h
  exact h)
 unfold reqV
 rw [hA]
 dsimp only at hl
 have hob := (okH_iff _ _ _).1 ho
 obtain ⟨S, hS⟩ : ∃ S : ByteArray, ⟨(showH ht.toNat hg.toNat hrr).toArray⟩ = S := ⟨_, rfl⟩
 have HSH := Lib.hid (show ∀ W0, Calls Tryz.prog 117 #[.agg #[.int .i64 ht, .int .u32 hg, .int .u8 hrr]] W0 fun e w' => e = .returned (.tuple #[.string S, .int .i64 0]) ∧ Later W0 w' from fun W0 => by
  have h := refShow_yes ht.toNat hg.toNat hrr W0 (by rw [Int.toNat_of_nonneg (by omega), Int.toNat_of_nonneg (by omega)]; exact ho) (by omega)
  rw [Int.toNat_of_nonneg (by omega), Int.toNat_of_nonneg (by omega), hS] at h
  exact h)
 obtain ⟨B, hB⟩ : ∃ B, w.heap.size = B := ⟨_, rfl⟩
 have hk0 : (w.alloc (.cells #[.int .i64 5, .int .i64 ht, .int .u32 hg, .int .u8 hrr, .string K, .string Vb, .string O, .int .i64 lim, .int .i64 ten, .int .u64 qk, .int .u64 qb, .int .u8 rts] 39)).heap[w.heap.size]? = some (.cells #[.int .i64 5, .int .i64 ht, .int .u32 hg, .int .u8 hrr, .string K, .string Vb, .string O, .int .i64 lim, .int .i64 ten, .int .u64 qk, .int .u64 qb, .int .u8 rts] 39 (0, 0)) := (MapKept.heap_alloc w _).1
 have HK0 := Lib.hid hk0
 have HBB := Lib.hid hB
 have HO := Lib.hid (And.intro ho (And.intro hS hob))
 clear ho hS hob
 have HKK := Lib.hid (And.intro hks (And.intro hvs (And.intro hos (And.intro hkd (And.intro hvd hod)))))
 have HF8 := Lib.hid f8
 clear hk0 hB htb hks hvs hos hkd hvd hod hK hVb hO hA f1 f2 f3 f4 f5 f6 f8 f9
 go_enter Tryz.func63, Tryz.ntmps63
 go_wp2_with fail
 refine (HSH.out _).mono ?_
 rintro y1 w1 ⟨rfl, hl1⟩
 have hk1 := (hl1.block _ (Array.getElem?_eq_some_iff.1 HK0.out).1).trans HK0.out
 have HL1 := Lib.hid (((Later.refl w).alloc _).trans hl1)
 have HK1 := Lib.hid hk1
 obtain ⟨e0, e1, e2, e3, e4, e5, e6, e7, e8, e9, e10, e11⟩ := HC.out w1 w.heap.size hk1
 clear hl1 hk1
 go_wp2_with fail
 refine (HDT.out _).mono ?_
 rintro y2 w2 ⟨rfl, hl2⟩
 obtain ⟨V2, hV2⟩ : ∃ V, w2.alloc (.cells #[.string Td] 9) = V := ⟨_, rfl⟩
 have hl3 : Later w1 V2 := by rw [← hV2]; exact hl2.alloc _
 have hk2 := (hl3.block _ (Array.getElem?_eq_some_iff.1 HK1.out).1).trans HK1.out
 have hz : V2.heap[w2.heap.size]? = some (.cells #[.string Td] 9 (0, 0)) := by rw [← hV2]; exact (MapKept.heap_alloc w2 _).1
 have HV2 := Lib.hid hV2
 have HW12 := Lib.hid hl2
 have HZ := Lib.hid hz
 have HK2 := Lib.hid hk2
 have HL3 := Lib.hid (HL1.out.trans hl3)
 clear hl2 hl3 hz hV2 e0 e1 e2 e3 e4 e5 e6 e7 e8 e9 e10 e11
 obtain ⟨e0, e1, e2, e3, e4, e5, e6, e7, e8, e9, e10, e11⟩ := HC.out V2 w.heap.size hk2
 clear hk2
 go_upto_region 3 with fail
 rw [HV2.out]
 obtain ⟨WK, hWK⟩ : ∃ T : ByteArray, ⟨(word key).toArray⟩ = T := ⟨_, rfl⟩
 have HWK := Lib.hid (show ∀ W0, Calls Tryz.prog 13 #[.string K] W0 fun e w' => e = .returned (.string WK) ∧ Later W0 w' from fun W0 => by
  have h := refWord_is K (by have := HKK.out.1; have := HF8.out; omega) W0
  rw [HKK.out.2.2.2.1, hWK] at h
  exact h)
 have EWK := Lib.hid hWK
 clear hWK
 obtain ⟨ln, hln⟩ : ∃ ln : Int, IntKind.u64.wrap lim = ln := ⟨_, rfl⟩
 have hlb : 0 ≤ ln ∧ ln ≤ 18446744073709551615 := by rw [← hln, IntKind.wrap_u64]; omega
 obtain ⟨Ld, hLd⟩ : ∃ T : ByteArray, ⟨(Lib.decDigits ln.toNat).toArray⟩ = T := ⟨_, rfl⟩
 have HDL := Lib.hid (show ∀ W0, Calls Tryz.prog 71 #[.int .u64 ln] W0 fun e w' => e = .returned (.string Ld) ∧ Later W0 w' from fun W0 => by
  have h := refDec_is ln.toNat (by omega) W0
  rw [Int.toNat_of_nonneg hlb.1, hLd] at h
  exact h)
 have HLN := Lib.hid (And.intro hln hLd)
 have HLI := Lib.hid f7
 have HB2 := Lib.hid hl
 have hl1 : decide ((0 : Int) ≤ lim) = false := decide_eq_false (by omega)
 clear hlb hLd f7 hl
 have HW2 := Lib.hid e4
 have HW5 := Lib.hid e7
 go_wp2_with fail
 clear e0 e1 e2 e3 e4 e5 e6 e7 e8 e9 e10 e11
 refine wp_region_iv mixedW (fun D' a' W' => ∃ x0 x1 x2 x3 x4 x5 x6 x7 x8 x9 x10 x11 x12 x13 x14 x15 x16 y2 y3, a' = ⟨#[Value.agg #[Value.int IntKind.i64 5, Value.int IntKind.i64 ht, Value.int IntKind.u32 hg, Value.int IntKind.u8 hrr, Value.string K, Value.string Vb, Value.string O, Value.int IntKind.i64 lim, Value.int IntKind.i64 ten, Value.int IntKind.u64 qk, Value.int IntKind.u64 qb, Value.int IntKind.u8 rts], Value.pointer (some { block := w.heap.size, off := 0 }), y2, y3, Value.string S, Value.int IntKind.i64 0, Value.slice (some { block := w2.heap.size, off := 0 }) 1 1, undef, undef, Value.tuple #[Value.string S, Value.int IntKind.i64 0], Value.pointer (some { block := w.heap.size, off := 1 }), Value.agg #[Value.int IntKind.i64 ht, Value.int IntKind.u32 hg, Value.int IntKind.u8 hrr], Value.tuple #[Value.string S, Value.int IntKind.i64 0], Value.string S, Value.int IntKind.i64 0, Value.pointer (some { block := w.heap.size, off := 8 }), Value.int IntKind.i64 ten, Value.int IntKind.u64 tn, Value.string Td, Value.slice (some { block := w2.heap.size, off := 0 }) 1 1, Value.pointer (some { block := w.heap.size, off := 0 }), Value.int IntKind.i64 5, Value.bool true, Value.bool true, Value.pointer (some { block := w.heap.size, off := 0 }), Value.int IntKind.i64 5, Value.bool true, Value.bool true, Value.bool true, Value.int IntKind.i64 0, Value.bool false, Value.bool false, Value.bool false, Value.pointer (some { block := w.heap.size, off := 0 }), Value.int IntKind.i64 5, Value.bool false, Value.bool false, undef, undef, undef, undef, undef, undef, undef, undef, Value.bool false, Value.bool false, Value.pointer (some { block := w.heap.size, off := 0 }), Value.int IntKind.i64 5, Value.bool false, Value.bool false, Value.bool false, undef, undef, undef, undef, undef, Value.bool false, Value.bool false, undef, undef, undef, undef, undef, undef, undef, undef, Value.bool false, Value.bool false, undef, undef, undef, undef, undef, undef, undef, undef, undef, undef, undef, Value.bool true, Value.bool true, x0, x1, x2, x3, x4, x5, x6, x7, x8, x9, x10, x11, x12, x13, x14, x15, x16, undef, undef, undef, undef, undef, undef, undef, undef, undef, undef, undef, undef, undef, undef, undef, undef, undef, undef, undef, undef, undef, undef, undef, undef, undef, undef, undef, undef, undef, undef, undef, undef, undef, undef], []⟩ ∧ (Later V2 W') ∧ (D' 8 = true → ∃ Z, x8 = .slice (some ⟨Z, 0, none⟩) 3 3 ∧ W'.heap[Z]? = some (.cells #[.string S, .string WK, .string Ld] 9 (0, 0))) ∧ (D' 0 = true → x0 = .string S) ∧ (D' 1 = true → x1 = .pointer (some ⟨w.heap.size, 4, none⟩)) ∧ (D' 2 = true → x2 = .string K) ∧ (D' 3 = true → x3 = .string WK) ∧ (D' 4 = true → x4 = .pointer (some ⟨w.heap.size, 7, none⟩)) ∧ (D' 5 = true → x5 = .int .i64 lim) ∧ (D' 6 = true → x6 = .int .u64 ln) ∧ (D' 7 = true → x7 = .string Ld) ∧ (D' 9 = true → x9 = .pointer (some ⟨w.heap.size, 7, none⟩)) ∧ (D' 10 = true → x10 = .int .i64 lim) ∧ (D' 11 = true → x11 = .bool false) ∧ (D' 12 = true → x12 = .bool false) ∧ (D' 13 = true → x13 = undef) ∧ (D' 14 = true → x14 = undef) ∧ (D' 15 = true → x15 = undef) ∧ (D' 16 = true → x16 = .bool false) ∧ (D' 17 = true → y2 = x8) ∧ (D' 18 = true → y3 = .bool false)) (by kernel_rfl) ?_ ?_ ?_
 ·exact ⟨_, _, _, _, _, _, _, _, _, _, _, _, _, _, _, _, _, _, _, rfl, (Later.refl V2).drew, (fun h => by cases h), (fun h => by cases h), (fun h => by cases h), (fun h => by cases h), (fun h => by cases h), (fun h => by cases h), (fun h => by cases h), (fun h => by cases h), (fun h => by cases h), (fun h => by cases h), (fun h => by cases h), (fun h => by cases h), (fun h => by cases h), (fun h => by cases h), (fun h => by cases h), (fun h => by cases h), (fun h => by cases h), (fun h => by cases h), (fun h => by cases h)⟩
 ·intro i D' a' W' hi hDi hdep hcl hI
  obtain ⟨x0, x1, x2, x3, x4, x5, x6, x7, x8, x9, x10, x11, x12, x13, x14, x15, x16, y2, y3, rfl, gL, gB, f0, f1, f2, f3, f4, f5, f6, f7, f9, f10, f11, f12, f13, f14, f15, f16, f17, f18⟩ := hI
  have hi' : i = 0 ∨ i = 1 ∨ i = 2 ∨ i = 3 ∨ i = 4 ∨ i = 5 ∨ i = 6 ∨ i = 7 ∨ i = 8 ∨ i = 9 ∨ i = 10 ∨ i = 11 ∨ i = 12 ∨ i = 13 ∨ i = 14 ∨ i = 15 ∨ i = 16 ∨ i = 17 ∨ i = 18 := by
   have : i < 19 := hi
   omega
  rcases hi' with rfl | rfl | rfl | rfl | rfl | rfl | rfl | rfl | rfl | rfl | rfl | rfl | rfl | rfl | rfl | rfl | rfl | rfl | rfl
  ·skip
   refine wpOp_step rfl (fun K' hK' => ?_)
   rw [if_pos (by rfl)]
   go_simp
   exact hK' _ _ ⟨_, x1, x2, x3, x4, x5, x6, x7, x8, x9, x10, x11, x12, x13, x14, x15, x16, y2, y3, rfl, gL, gB, (fun _ => rfl), f1, f2, f3, f4, f5, f6, f7, f9, f10, f11, f12, f13, f14, f15, f16, f17, f18⟩
  ·skip
   refine wpOp_step rfl (fun K' hK' => ?_)
   rw [if_pos (by rfl)]
   go_simp
   exact hK' _ _ ⟨x0, _, x2, x3, x4, x5, x6, x7, x8, x9, x10, x11, x12, x13, x14, x15, x16, y2, y3, rfl, gL, gB, f0, (fun _ => rfl), f2, f3, f4, f5, f6, f7, f9, f10, f11, f12, f13, f14, f15, f16, f17, f18⟩
  ·have q1 := f1 (hdep 1 (by kernel_rfl))
   subst q1
   have hc := cell_at gL HW2.out (cell_lt HW2.out)
   refine wpOp_step rfl (fun K' hK' => ?_)
   rw [if_pos (by rfl)]
   go_simp
   exact hK' _ _ ⟨x0, _, _, x3, x4, x5, x6, x7, x8, x9, x10, x11, x12, x13, x14, x15, x16, y2, y3, rfl, gL, gB, f0, (fun _ => rfl), (fun _ => rfl), f3, f4, f5, f6, f7, f9, f10, f11, f12, f13, f14, f15, f16, f17, f18⟩
  ·have q2 := f2 (hdep 2 (by kernel_rfl))
   subst q2
   refine wpOp_step rfl (fun K' hK' => ?_)
   rw [if_pos (by rfl)]
   go_simp
   refine (HWK.out W').mono ?_
   rintro y8 w8 ⟨rfl, hl1⟩
   exact hK' _ _ ⟨x0, x1, _, _, x4, x5, x6, x7, x8, x9, x10, x11, x12, x13, x14, x15, x16, y2, y3, rfl, (gL.trans hl1), (fun h => by obtain ⟨Z, h1, h2⟩ := gB h; exact ⟨Z, h1, (hl1.block Z (Array.getElem?_eq_some_iff.1 h2).1).trans h2⟩), f0, f1, (fun _ => rfl), (fun _ => rfl), f4, f5, f6, f7, f9, f10, f11, f12, f13, f14, f15, f16, f17, f18⟩
  ·skip
   refine wpOp_step rfl (fun K' hK' => ?_)
   rw [if_pos (by rfl)]
   go_simp
   exact hK' _ _ ⟨x0, x1, x2, x3, _, x5, x6, x7, x8, x9, x10, x11, x12, x13, x14, x15, x16, y2, y3, rfl, gL, gB, f0, f1, f2, f3, (fun _ => rfl), f5, f6, f7, f9, f10, f11, f12, f13, f14, f15, f16, f17, f18⟩
  ·have q4 := f4 (hdep 4 (by kernel_rfl))
   subst q4
   have hc := cell_at gL HW5.out (cell_lt HW5.out)
   refine wpOp_step rfl (fun K' hK' => ?_)
   rw [if_pos (by rfl)]
   go_simp
   exact hK' _ _ ⟨x0, x1, x2, x3, _, _, x6, x7, x8, x9, x10, x11, x12, x13, x14, x15, x16, y2, y3, rfl, gL, gB, f0, f1, f2, f3, (fun _ => rfl), (fun _ => rfl), f6, f7, f9, f10, f11, f12, f13, f14, f15, f16, f17, f18⟩
  ·have q5 := f5 (hdep 5 (by kernel_rfl))
   subst q5
   refine wpOp_step rfl (fun K' hK' => ?_)
   rw [if_pos (by rfl)]
   go_simp
   exact hK' _ _ ⟨x0, x1, x2, x3, x4, _, _, x7, x8, x9, x10, x11, x12, x13, x14, x15, x16, y2, y3, rfl, gL, gB, f0, f1, f2, f3, f4, (fun _ => rfl), (fun _ => rfl), f7, f9, f10, f11, f12, f13, f14, f15, f16, f17, f18⟩
  ·have q6 := f6 (hdep 6 (by kernel_rfl))
   subst q6
   refine wpOp_step rfl (fun K' hK' => ?_)
   rw [if_pos (by rfl)]
   go_simp
   refine (HDL.out W').mono ?_
   rintro y8 w8 ⟨rfl, hl1⟩
   exact hK' _ _ ⟨x0, x1, x2, x3, x4, x5, _, _, x8, x9, x10, x11, x12, x13, x14, x15, x16, y2, y3, rfl, (gL.trans hl1), (fun h => by obtain ⟨Z, h1, h2⟩ := gB h; exact ⟨Z, h1, (hl1.block Z (Array.getElem?_eq_some_iff.1 h2).1).trans h2⟩), f0, f1, f2, f3, f4, f5, (fun _ => rfl), (fun _ => rfl), f9, f10, f11, f12, f13, f14, f15, f16, f17, f18⟩
  ·have q0 := f0 (hdep 0 (by kernel_rfl))
   have q3 := f3 (hdep 3 (by kernel_rfl))
   have q7 := f7 (hdep 7 (by kernel_rfl))
   subst q0
   subst q3
   subst q7
   have hn17 := hcl.no hDi (k := 17) (by decide) (by kernel_rfl)
   refine wpOp_step rfl (fun K' hK' => ?_)
   rw [if_pos (by rfl)]
   go_simp
   exact hK' _ _ ⟨_, x1, x2, _, x4, x5, x6, _, _, x9, x10, x11, x12, x13, x14, x15, x16, y2, y3, rfl, (gL.alloc _), (fun _ => ⟨W'.heap.size, rfl, (MapKept.heap_alloc W' _).1⟩), (fun _ => rfl), f1, f2, (fun _ => rfl), f4, f5, f6, (fun _ => rfl), f9, f10, f11, f12, f13, f14, f15, f16, (fun h => absurd (show D' 17 = true from h) (by rw [hn17]; decide)), f18⟩
  ·skip
   refine wpOp_step rfl (fun K' hK' => ?_)
   rw [if_pos (by rfl)]
   go_simp
   exact hK' _ _ ⟨x0, x1, x2, x3, x4, x5, x6, x7, x8, _, x10, x11, x12, x13, x14, x15, x16, y2, y3, rfl, gL, gB, f0, f1, f2, f3, f4, f5, f6, f7, (fun _ => rfl), f10, f11, f12, f13, f14, f15, f16, f17, f18⟩
  ·have q9 := f9 (hdep 9 (by kernel_rfl))
   subst q9
   have hc := cell_at gL HW5.out (cell_lt HW5.out)
   refine wpOp_step rfl (fun K' hK' => ?_)
   rw [if_pos (by rfl)]
   go_simp
   exact hK' _ _ ⟨x0, x1, x2, x3, x4, x5, x6, x7, x8, _, _, x11, x12, x13, x14, x15, x16, y2, y3, rfl, gL, gB, f0, f1, f2, f3, f4, f5, f6, f7, (fun _ => rfl), (fun _ => rfl), f11, f12, f13, f14, f15, f16, f17, f18⟩
  ·have q10 := f10 (hdep 10 (by kernel_rfl))
   subst q10
   refine wpOp_step rfl (fun K' hK' => ?_)
   rw [if_pos (by rfl)]
   go_simp
   exact hK' _ _ ⟨x0, x1, x2, x3, x4, x5, x6, x7, x8, x9, _, _, x12, x13, x14, x15, x16, y2, y3, rfl, gL, gB, f0, f1, f2, f3, f4, f5, f6, f7, f9, (fun _ => rfl), (fun _ => rfl), f12, f13, f14, f15, f16, f17, f18⟩
  ·have q11 := f11 (hdep 11 (by kernel_rfl))
   subst q11
   refine wpOp_step rfl (fun K' hK' => ?_)
   rw [if_pos (by rfl)]
   go_simp
   exact hK' _ _ ⟨x0, x1, x2, x3, x4, x5, x6, x7, x8, x9, x10, _, _, x13, x14, x15, x16, y2, y3, rfl, gL, gB, f0, f1, f2, f3, f4, f5, f6, f7, f9, f10, (fun _ => rfl), (fun _ => rfl), f13, f14, f15, f16, f17, f18⟩
  ·have q12 := f12 (hdep 12 (by kernel_rfl))
   subst q12
   refine wpOp_step rfl (fun K' hK' => ?_)
   rw [if_neg (by exact Bool.false_ne_true)]
   exact hK' _ _ ⟨x0, x1, x2, x3, x4, x5, x6, x7, x8, x9, x10, x11, _, _, x14, x15, x16, y2, y3, rfl, gL, gB, f0, f1, f2, f3, f4, f5, f6, f7, f9, f10, f11, (fun _ => rfl), (fun _ => rfl), f14, f15, f16, f17, f18⟩
  ·have q12 := f12 (hdep 12 (by kernel_rfl))
   subst q12
   refine wpOp_step rfl (fun K' hK' => ?_)
   rw [if_neg (by exact Bool.false_ne_true)]
   exact hK' _ _ ⟨x0, x1, x2, x3, x4, x5, x6, x7, x8, x9, x10, x11, _, x13, _, x15, x16, y2, y3, rfl, gL, gB, f0, f1, f2, f3, f4, f5, f6, f7, f9, f10, f11, (fun _ => rfl), f13, (fun _ => rfl), f15, f16, f17, f18⟩
  ·have q12 := f12 (hdep 12 (by kernel_rfl))
   subst q12
   refine wpOp_step rfl (fun K' hK' => ?_)
   rw [if_neg (by exact Bool.false_ne_true)]
   exact hK' _ _ ⟨x0, x1, x2, x3, x4, x5, x6, x7, x8, x9, x10, x11, _, x13, x14, _, x16, y2, y3, rfl, gL, gB, f0, f1, f2, f3, f4, f5, f6, f7, f9, f10, f11, (fun _ => rfl), f13, f14, (fun _ => rfl), f16, f17, f18⟩
  ·have q12 := f12 (hdep 12 (by kernel_rfl))
   subst q12
   refine wpOp_step rfl (fun K' hK' => ?_)
   rw [if_pos (by rfl)]
   go_simp
   exact hK' _ _ ⟨x0, x1, x2, x3, x4, x5, x6, x7, x8, x9, x10, x11, _, x13, x14, x15, _, y2, y3, rfl, gL, gB, f0, f1, f2, f3, f4, f5, f6, f7, f9, f10, f11, (fun _ => rfl), f13, f14, f15, (fun _ => rfl), f17, f18⟩
  ·skip
   refine wpOp_step rfl (fun K' hK' => ?_)
   rw [if_pos (by rfl)]
   go_simp
   exact hK' _ _ ⟨x0, x1, x2, x3, x4, x5, x6, x7, x8, x9, x10, x11, x12, x13, x14, x15, x16, _, y3, rfl, gL, gB, f0, f1, f2, f3, f4, f5, f6, f7, f9, f10, f11, f12, f13, f14, f15, f16, (fun _ => rfl), f18⟩
  ·have q16 := f16 (hdep 16 (by kernel_rfl))
   subst q16
   refine wpOp_step rfl (fun K' hK' => ?_)
   rw [if_pos (by rfl)]
   go_simp
   exact hK' _ _ ⟨x0, x1, x2, x3, x4, x5, x6, x7, x8, x9, x10, x11, x12, x13, x14, x15, _, y2, _, rfl, gL, gB, f0, f1, f2, f3, f4, f5, f6, f7, f9, f10, f11, f12, f13, f14, f15, (fun _ => rfl), f17, (fun _ => rfl)⟩
 ·rintro D' a' W' hD' ⟨x0, x1, x2, x3, x4, x5, x6, x7, x8, x9, x10, x11, x12, x13, x14, x15, x16, y2, y3, rfl, gL, gB, f0, f1, f2, f3, f4, f5, f6, f7, f9, f10, f11, f12, f13, f14, f15, f16, f17, f18⟩
  obtain ⟨Z, qZ, hZ⟩ := gB (hD' 8 (by decide))
  have q2 := f17 (hD' 17 (by decide))
  have q3 := f18 (hD' 18 (by decide))
  subst qZ
  subst q2
  subst q3
  have HLF := Lib.hid (HL3.out.trans gL)
  have HZF := Lib.hid hZ
  clear gL gB hZ f0 f1 f2 f3 f4 f5 f6 f7 f9 f10 f11 f12 f13 f14 f15 f16 f17 f18
  go_wp2_with fail
  go_ret2
  exact ⟨HLF.out, _, _, rfl, .inr ⟨rfl, fun x hx => .inr (fun h => by have h2 := h rfl; have h3 := HB2.out; dsimp only at h2; omega)⟩⟩
set_option maxRecDepth 100000 in
set_option maxHeartbeats 8000000 in
theorem refWords_A5p (r : Req) (hr : r.fit) (hd : r.deed = 5) (ho : okH r.ht r.hg r.hr = true) (hl : 0 ≤ r.lim) (w : World) : Calls Tryz.prog 63 #[reqV r] w (WEnd r w) := by
 obtain ⟨d, ht, hg, hrr, key, val, old, lim, ten, qk, qb, rts⟩ := r
 have f1 := hr.hr
 have f2 := hr.rts
 have f3 := hr.ten
 have f4 := hr.hg
 have f5 := hr.qk
 have f6 := hr.qb
 have f7 := hr.lim
 have f8 := hr.len
 have f9 := hr.deed
 dsimp only at f1 f2 f3 f4 f5 f6 f7 f8 f9 hd ho ⊢
 subst hd
 obtain ⟨K, hK⟩ : ∃ K : ByteArray, ⟨key.toArray⟩ = K := ⟨_, rfl⟩
 obtain ⟨Vb, hVb⟩ : ∃ V : ByteArray, ⟨val.toArray⟩ = V := ⟨_, rfl⟩
 obtain ⟨O, hO⟩ : ∃ O : ByteArray, ⟨old.toArray⟩ = O := ⟨_, rfl⟩
 have hA : reqA ⟨5, ht, hg, hrr, key, val, old, lim, ten, qk, qb, rts⟩ = #[.int .i64 5, .int .i64 ht, .int .u32 hg, .int .u8 hrr, .string K, .string Vb, .string O, .int .i64 lim, .int .i64 ten, .int .u64 qk, .int .u64 qb, .int .u8 rts] := by rw [← hK, ← hVb, ← hO]; rfl
 have hks : K.size = key.length := by rw [← hK, size_mk]
 have hvs : Vb.size = val.length := by rw [← hVb, size_mk]
 have hos : O.size = old.length := by rw [← hO, size_mk]
 have hkd : K.data.toList = key := by rw [← hK]
 have hvd : Vb.data.toList = val := by rw [← hVb]
 have hod : O.data.toList = old := by rw [← hO]
 have HC := Lib.hid (show ∀ (U : World) (b : Nat), U.heap[b]? = some (.cells #[.int .i64 5, .int .i64 ht, .int .u32 hg, .int .u8 hrr, .string K, .string Vb, .string O, .int .i64 lim, .int .i64 ten, .int .u64 qk, .int .u64 qb, .int .u8 rts] 39 (0, 0)) → U.cell? ⟨b, 0, none⟩ = some (.int .i64 5) ∧ U.cell? ⟨b, 1, none⟩ = some (.int .i64 ht) ∧ U.cell? ⟨b, 2, none⟩ = some (.int .u32 hg) ∧ U.cell? ⟨b, 3, none⟩ = some (.int .u8 hrr) ∧ U.cell? ⟨b, 4, none⟩ = some (.string K) ∧ U.cell? ⟨b, 5, none⟩ = some (.string Vb) ∧ U.cell? ⟨b, 6, none⟩ = some (.string O) ∧ U.cell? ⟨b, 7, none⟩ = some (.int .i64 lim) ∧ U.cell? ⟨b, 8, none⟩ = some (.int .i64 ten) ∧ U.cell? ⟨b, 9, none⟩ = some (.int .u64 qk) ∧ U.cell? ⟨b, 10, none⟩ = some (.int .u64 qb) ∧ U.cell? ⟨b, 11, none⟩ = some (.int .u8 rts) from fun U b h => by
  refine ⟨?_, ?_, ?_, ?_, ?_, ?_, ?_, ?_, ?_, ?_, ?_, ?_⟩ <;> (rw [Lib.cell_of_heap h]; rfl))
 obtain ⟨tn, htn⟩ : ∃ tn : Int, IntKind.u64.wrap ten = tn := ⟨_, rfl⟩
 have htb : 0 ≤ tn ∧ tn ≤ 18446744073709551615 := by rw [← htn, IntKind.wrap_u64]; omega
 obtain ⟨Td, hTd⟩ : ∃ T : ByteArray, ⟨(Lib.decDigits tn.toNat).toArray⟩ = T := ⟨_, rfl⟩
 have HDT := Lib.hid (show ∀ W0, Calls Tryz.prog 71 #[.int .u64 tn] W0 fun e w' => e = .returned (.string Td) ∧ Later W0 w' from fun W0 => by
  have h := refDec_is tn.toNat (by omega) W0
  rw [Int.toNat_of_nonneg htb.1, hTd] at h
  exact h)
 unfold reqV
 rw [hA]
 dsimp only at hl
 have hob := (okH_iff _ _ _).1 ho
 obtain ⟨S, hS⟩ : ∃ S : ByteArray, ⟨(showH ht.toNat hg.toNat hrr).toArray⟩ = S := ⟨_, rfl⟩
 have HSH := Lib.hid (show ∀ W0, Calls Tryz.prog 117 #[.agg #[.int .i64 ht, .int .u32 hg, .int .u8 hrr]] W0 fun e w' => e = .returned (.tuple #[.string S, .int .i64 0]) ∧ Later W0 w' from fun W0 => by
  have h := refShow_yes ht.toNat hg.toNat hrr W0 (by rw [Int.toNat_of_nonneg (by omega), Int.toNat_of_nonneg (by omega)]; exact ho) (by omega)
  rw [Int.toNat_of_nonneg (by omega), Int.toNat_of_nonneg (by omega), hS] at h
  exact h)
 obtain ⟨B, hB⟩ : ∃ B, w.heap.size = B := ⟨_, rfl⟩
 have hk0 : (w.alloc (.cells #[.int .i64 5, .int .i64 ht, .int .u32 hg, .int .u8 hrr, .string K, .string Vb, .string O, .int .i64 lim, .int .i64 ten, .int .u64 qk, .int .u64 qb, .int .u8 rts] 39)).heap[w.heap.size]? = some (.cells #[.int .i64 5, .int .i64 ht, .int .u32 hg, .int .u8 hrr, .string K, .string Vb, .string O, .int .i64 lim, .int .i64 ten, .int .u64 qk, .int .u64 qb, .int .u8 rts] 39 (0, 0)) := (MapKept.heap_alloc w _).1
 have HK0 := Lib.hid hk0
 have HBB := Lib.hid hB
 have HO := Lib.hid (And.intro ho (And.intro hS hob))
 clear ho hS hob
 have HKK := Lib.hid (And.intro hks (And.intro hvs (And.intro hos (And.intro hkd (And.intro hvd hod)))))
 have HF8 := Lib.hid f8
 clear hk0 hB htb hks hvs hos hkd hvd hod hK hVb hO hA f1 f2 f3 f4 f5 f6 f8 f9
 go_enter Tryz.func63, Tryz.ntmps63
 go_wp2_with fail
 refine (HSH.out _).mono ?_
 rintro y1 w1 ⟨rfl, hl1⟩
 have hk1 := (hl1.block _ (Array.getElem?_eq_some_iff.1 HK0.out).1).trans HK0.out
 have HL1 := Lib.hid (((Later.refl w).alloc _).trans hl1)
 have HK1 := Lib.hid hk1
 obtain ⟨e0, e1, e2, e3, e4, e5, e6, e7, e8, e9, e10, e11⟩ := HC.out w1 w.heap.size hk1
 clear hl1 hk1
 go_wp2_with fail
 refine (HDT.out _).mono ?_
 rintro y2 w2 ⟨rfl, hl2⟩
 obtain ⟨V2, hV2⟩ : ∃ V, w2.alloc (.cells #[.string Td] 9) = V := ⟨_, rfl⟩
 have hl3 : Later w1 V2 := by rw [← hV2]; exact hl2.alloc _
 have hk2 := (hl3.block _ (Array.getElem?_eq_some_iff.1 HK1.out).1).trans HK1.out
 have hz : V2.heap[w2.heap.size]? = some (.cells #[.string Td] 9 (0, 0)) := by rw [← hV2]; exact (MapKept.heap_alloc w2 _).1
 have HV2 := Lib.hid hV2
 have HW12 := Lib.hid hl2
 have HZ := Lib.hid hz
 have HK2 := Lib.hid hk2
 have HL3 := Lib.hid (HL1.out.trans hl3)
 clear hl2 hl3 hz hV2 e0 e1 e2 e3 e4 e5 e6 e7 e8 e9 e10 e11
 obtain ⟨e0, e1, e2, e3, e4, e5, e6, e7, e8, e9, e10, e11⟩ := HC.out V2 w.heap.size hk2
 clear hk2
 go_upto_region 3 with fail
 rw [HV2.out]
 obtain ⟨WK, hWK⟩ : ∃ T : ByteArray, ⟨(word key).toArray⟩ = T := ⟨_, rfl⟩
 have HWK := Lib.hid (show ∀ W0, Calls Tryz.prog 13 #[.string K] W0 fun e w' => e = .returned (.string WK) ∧ Later W0 w' from fun W0 => by
  have h := refWord_is K (by have := HKK.out.1; have := HF8.out; omega) W0
  rw [HKK.out.2.2.2.1, hWK] at h
  exact h)
 have EWK := Lib.hid hWK
 clear hWK
 obtain ⟨ln, hln⟩ : ∃ ln : Int, IntKind.u64.wrap lim = ln := ⟨_, rfl⟩
 have hlb : 0 ≤ ln ∧ ln ≤ 18446744073709551615 := by rw [← hln, IntKind.wrap_u64]; omega
 obtain ⟨Ld, hLd⟩ : ∃ T : ByteArray, ⟨(Lib.decDigits ln.toNat).toArray⟩ = T := ⟨_, rfl⟩
 have HDL := Lib.hid (show ∀ W0, Calls Tryz.prog 71 #[.int .u64 ln] W0 fun e w' => e = .returned (.string Ld) ∧ Later W0 w' from fun W0 => by
  have h := refDec_is ln.toNat (by omega) W0
  rw [Int.toNat_of_nonneg hlb.1, hLd] at h
  exact h)
 have HLN := Lib.hid (And.intro hln hLd)
 have HLI := Lib.hid f7
 obtain ⟨b, hb⟩ : ∃ b : Bool, decide (lim ≤ (999999999 : Int)) = b := ⟨_, rfl⟩
 have HB2 := Lib.hid (And.intro hb hl)
 have hl1 : decide ((0 : Int) ≤ lim) = true := decide_eq_true hl
 clear hlb hLd f7 hl
 have HW2 := Lib.hid e4
 have HW5 := Lib.hid e7
 go_wp2_with fail
 clear e0 e1 e2 e3 e4 e5 e6 e7 e8 e9 e10 e11
 refine wp_region_iv mixedW (fun D' a' W' => ∃ x0 x1 x2 x3 x4 x5 x6 x7 x8 x9 x10 x11 x12 x13 x14 x15 x16 y2 y3, a' = ⟨#[Value.agg #[Value.int IntKind.i64 5, Value.int IntKind.i64 ht, Value.int IntKind.u32 hg, Value.int IntKind.u8 hrr, Value.string K, Value.string Vb, Value.string O, Value.int IntKind.i64 lim, Value.int IntKind.i64 ten, Value.int IntKind.u64 qk, Value.int IntKind.u64 qb, Value.int IntKind.u8 rts], Value.pointer (some { block := w.heap.size, off := 0 }), y2, y3, Value.string S, Value.int IntKind.i64 0, Value.slice (some { block := w2.heap.size, off := 0 }) 1 1, undef, undef, Value.tuple #[Value.string S, Value.int IntKind.i64 0], Value.pointer (some { block := w.heap.size, off := 1 }), Value.agg #[Value.int IntKind.i64 ht, Value.int IntKind.u32 hg, Value.int IntKind.u8 hrr], Value.tuple #[Value.string S, Value.int IntKind.i64 0], Value.string S, Value.int IntKind.i64 0, Value.pointer (some { block := w.heap.size, off := 8 }), Value.int IntKind.i64 ten, Value.int IntKind.u64 tn, Value.string Td, Value.slice (some { block := w2.heap.size, off := 0 }) 1 1, Value.pointer (some { block := w.heap.size, off := 0 }), Value.int IntKind.i64 5, Value.bool true, Value.bool true, Value.pointer (some { block := w.heap.size, off := 0 }), Value.int IntKind.i64 5, Value.bool true, Value.bool true, Value.bool true, Value.int IntKind.i64 0, Value.bool false, Value.bool false, Value.bool false, Value.pointer (some { block := w.heap.size, off := 0 }), Value.int IntKind.i64 5, Value.bool false, Value.bool false, undef, undef, undef, undef, undef, undef, undef, undef, Value.bool false, Value.bool false, Value.pointer (some { block := w.heap.size, off := 0 }), Value.int IntKind.i64 5, Value.bool false, Value.bool false, Value.bool false, undef, undef, undef, undef, undef, Value.bool false, Value.bool false, undef, undef, undef, undef, undef, undef, undef, undef, Value.bool false, Value.bool false, undef, undef, undef, undef, undef, undef, undef, undef, undef, undef, undef, Value.bool true, Value.bool true, x0, x1, x2, x3, x4, x5, x6, x7, x8, x9, x10, x11, x12, x13, x14, x15, x16, undef, undef, undef, undef, undef, undef, undef, undef, undef, undef, undef, undef, undef, undef, undef, undef, undef, undef, undef, undef, undef, undef, undef, undef, undef, undef, undef, undef, undef, undef, undef, undef, undef, undef], []⟩ ∧ (Later V2 W') ∧ (D' 8 = true → ∃ Z, x8 = .slice (some ⟨Z, 0, none⟩) 3 3 ∧ W'.heap[Z]? = some (.cells #[.string S, .string WK, .string Ld] 9 (0, 0))) ∧ (D' 0 = true → x0 = .string S) ∧ (D' 1 = true → x1 = .pointer (some ⟨w.heap.size, 4, none⟩)) ∧ (D' 2 = true → x2 = .string K) ∧ (D' 3 = true → x3 = .string WK) ∧ (D' 4 = true → x4 = .pointer (some ⟨w.heap.size, 7, none⟩)) ∧ (D' 5 = true → x5 = .int .i64 lim) ∧ (D' 6 = true → x6 = .int .u64 ln) ∧ (D' 7 = true → x7 = .string Ld) ∧ (D' 9 = true → x9 = .pointer (some ⟨w.heap.size, 7, none⟩)) ∧ (D' 10 = true → x10 = .int .i64 lim) ∧ (D' 11 = true → x11 = .bool true) ∧ (D' 12 = true → x12 = .bool true) ∧ (D' 13 = true → x13 = .pointer (some ⟨w.heap.size, 7, none⟩)) ∧ (D' 14 = true → x14 = .int .i64 lim) ∧ (D' 15 = true → x15 = .bool b) ∧ (D' 16 = true → x16 = .bool b) ∧ (D' 17 = true → y2 = x8) ∧ (D' 18 = true → y3 = .bool b)) (by kernel_rfl) ?_ ?_ ?_
 ·exact ⟨_, _, _, _, _, _, _, _, _, _, _, _, _, _, _, _, _, _, _, rfl, (Later.refl V2).drew, (fun h => by cases h), (fun h => by cases h), (fun h => by cases h), (fun h => by cases h), (fun h => by cases h), (fun h => by cases h), (fun h => by cases h), (fun h => by cases h), (fun h => by cases h), (fun h => by cases h), (fun h => by cases h), (fun h => by cases h), (fun h => by cases h), (fun h => by cases h), (fun h => by cases h), (fun h => by cases h), (fun h => by cases h), (fun h => by cases h), (fun h => by cases h)⟩
 ·intro i D' a' W' hi hDi hdep hcl hI
  obtain ⟨x0, x1, x2, x3, x4, x5, x6, x7, x8, x9, x10, x11, x12, x13, x14, x15, x16, y2, y3, rfl, gL, gB, f0, f1, f2, f3, f4, f5, f6, f7, f9, f10, f11, f12, f13, f14, f15, f16, f17, f18⟩ := hI
  have hi' : i = 0 ∨ i = 1 ∨ i = 2 ∨ i = 3 ∨ i = 4 ∨ i = 5 ∨ i = 6 ∨ i = 7 ∨ i = 8 ∨ i = 9 ∨ i = 10 ∨ i = 11 ∨ i = 12 ∨ i = 13 ∨ i = 14 ∨ i = 15 ∨ i = 16 ∨ i = 17 ∨ i = 18 := by
   have : i < 19 := hi
   omega
  rcases hi' with rfl | rfl | rfl | rfl | rfl | rfl | rfl | rfl | rfl | rfl | rfl | rfl | rfl | rfl | rfl | rfl | rfl | rfl | rfl
  ·skip
   refine wpOp_step rfl (fun K' hK' => ?_)
   rw [if_pos (by rfl)]
   go_simp
   exact hK' _ _ ⟨_, x1, x2, x3, x4, x5, x6, x7, x8, x9, x10, x11, x12, x13, x14, x15, x16, y2, y3, rfl, gL, gB, (fun _ => rfl), f1, f2, f3, f4, f5, f6, f7, f9, f10, f11, f12, f13, f14, f15, f16, f17, f18⟩
  ·skip
   refine wpOp_step rfl (fun K' hK' => ?_)
   rw [if_pos (by rfl)]
   go_simp
   exact hK' _ _ ⟨x0, _, x2, x3, x4, x5, x6, x7, x8, x9, x10, x11, x12, x13, x14, x15, x16, y2, y3, rfl, gL, gB, f0, (fun _ => rfl), f2, f3, f4, f5, f6, f7, f9, f10, f11, f12, f13, f14, f15, f16, f17, f18⟩
  ·have q1 := f1 (hdep 1 (by kernel_rfl))
   subst q1
   have hc := cell_at gL HW2.out (cell_lt HW2.out)
   refine wpOp_step rfl (fun K' hK' => ?_)
   rw [if_pos (by rfl)]
   go_simp
   exact hK' _ _ ⟨x0, _, _, x3, x4, x5, x6, x7, x8, x9, x10, x11, x12, x13, x14, x15, x16, y2, y3, rfl, gL, gB, f0, (fun _ => rfl), (fun _ => rfl), f3, f4, f5, f6, f7, f9, f10, f11, f12, f13, f14, f15, f16, f17, f18⟩
  ·have q2 := f2 (hdep 2 (by kernel_rfl))
   subst q2
   refine wpOp_step rfl (fun K' hK' => ?_)
   rw [if_pos (by rfl)]
   go_simp
   refine (HWK.out W').mono ?_
   rintro y8 w8 ⟨rfl, hl1⟩
   exact hK' _ _ ⟨x0, x1, _, _, x4, x5, x6, x7, x8, x9, x10, x11, x12, x13, x14, x15, x16, y2, y3, rfl, (gL.trans hl1), (fun h => by obtain ⟨Z, h1, h2⟩ := gB h; exact ⟨Z, h1, (hl1.block Z (Array.getElem?_eq_some_iff.1 h2).1).trans h2⟩), f0, f1, (fun _ => rfl), (fun _ => rfl), f4, f5, f6, f7, f9, f10, f11, f12, f13, f14, f15, f16, f17, f18⟩
  ·skip
   refine wpOp_step rfl (fun K' hK' => ?_)
   rw [if_pos (by rfl)]
   go_simp
   exact hK' _ _ ⟨x0, x1, x2, x3, _, x5, x6, x7, x8, x9, x10, x11, x12, x13, x14, x15, x16, y2, y3, rfl, gL, gB, f0, f1, f2, f3, (fun _ => rfl), f5, f6, f7, f9, f10, f11, f12, f13, f14, f15, f16, f17, f18⟩
  ·have q4 := f4 (hdep 4 (by kernel_rfl))
   subst q4
   have hc := cell_at gL HW5.out (cell_lt HW5.out)
   refine wpOp_step rfl (fun K' hK' => ?_)
   rw [if_pos (by rfl)]
   go_simp
   exact hK' _ _ ⟨x0, x1, x2, x3, _, _, x6, x7, x8, x9, x10, x11, x12, x13, x14, x15, x16, y2, y3, rfl, gL, gB, f0, f1, f2, f3, (fun _ => rfl), (fun _ => rfl), f6, f7, f9, f10, f11, f12, f13, f14, f15, f16, f17, f18⟩
  ·have q5 := f5 (hdep 5 (by kernel_rfl))
   subst q5
   refine wpOp_step rfl (fun K' hK' => ?_)
   rw [if_pos (by rfl)]
   go_simp
   exact hK' _ _ ⟨x0, x1, x2, x3, x4, _, _, x7, x8, x9, x10, x11, x12, x13, x14, x15, x16, y2, y3, rfl, gL, gB, f0, f1, f2, f3, f4, (fun _ => rfl), (fun _ => rfl), f7, f9, f10, f11, f12, f13, f14, f15, f16, f17, f18⟩
  ·have q6 := f6 (hdep 6 (by kernel_rfl))
   subst q6
   refine wpOp_step rfl (fun K' hK' => ?_)
   rw [if_pos (by rfl)]
   go_simp
   refine (HDL.out W').mono ?_
   rintro y8 w8 ⟨rfl, hl1⟩
   exact hK' _ _ ⟨x0, x1, x2, x3, x4, x5, _, _, x8, x9, x10, x11, x12, x13, x14, x15, x16, y2, y3, rfl, (gL.trans hl1), (fun h => by obtain ⟨Z, h1, h2⟩ := gB h; exact ⟨Z, h1, (hl1.block Z (Array.getElem?_eq_some_iff.1 h2).1).trans h2⟩), f0, f1, f2, f3, f4, f5, (fun _ => rfl), (fun _ => rfl), f9, f10, f11, f12, f13, f14, f15, f16, f17, f18⟩
  ·have q0 := f0 (hdep 0 (by kernel_rfl))
   have q3 := f3 (hdep 3 (by kernel_rfl))
   have q7 := f7 (hdep 7 (by kernel_rfl))
   subst q0
   subst q3
   subst q7
   have hn17 := hcl.no hDi (k := 17) (by decide) (by kernel_rfl)
   refine wpOp_step rfl (fun K' hK' => ?_)
   rw [if_pos (by rfl)]
   go_simp
   exact hK' _ _ ⟨_, x1, x2, _, x4, x5, x6, _, _, x9, x10, x11, x12, x13, x14, x15, x16, y2, y3, rfl, (gL.alloc _), (fun _ => ⟨W'.heap.size, rfl, (MapKept.heap_alloc W' _).1⟩), (fun _ => rfl), f1, f2, (fun _ => rfl), f4, f5, f6, (fun _ => rfl), f9, f10, f11, f12, f13, f14, f15, f16, (fun h => absurd (show D' 17 = true from h) (by rw [hn17]; decide)), f18⟩
  ·skip
   refine wpOp_step rfl (fun K' hK' => ?_)
   rw [if_pos (by rfl)]
   go_simp
   exact hK' _ _ ⟨x0, x1, x2, x3, x4, x5, x6, x7, x8, _, x10, x11, x12, x13, x14, x15, x16, y2, y3, rfl, gL, gB, f0, f1, f2, f3, f4, f5, f6, f7, (fun _ => rfl), f10, f11, f12, f13, f14, f15, f16, f17, f18⟩
  ·have q9 := f9 (hdep 9 (by kernel_rfl))
   subst q9
   have hc := cell_at gL HW5.out (cell_lt HW5.out)
   refine wpOp_step rfl (fun K' hK' => ?_)
   rw [if_pos (by rfl)]
   go_simp
   exact hK' _ _ ⟨x0, x1, x2, x3, x4, x5, x6, x7, x8, _, _, x11, x12, x13, x14, x15, x16, y2, y3, rfl, gL, gB, f0, f1, f2, f3, f4, f5, f6, f7, (fun _ => rfl), (fun _ => rfl), f11, f12, f13, f14, f15, f16, f17, f18⟩
  ·have q10 := f10 (hdep 10 (by kernel_rfl))
   subst q10
   refine wpOp_step rfl (fun K' hK' => ?_)
   rw [if_pos (by rfl)]
   go_simp
   exact hK' _ _ ⟨x0, x1, x2, x3, x4, x5, x6, x7, x8, x9, _, _, x12, x13, x14, x15, x16, y2, y3, rfl, gL, gB, f0, f1, f2, f3, f4, f5, f6, f7, f9, (fun _ => rfl), (fun _ => rfl), f12, f13, f14, f15, f16, f17, f18⟩
  ·have q11 := f11 (hdep 11 (by kernel_rfl))
   subst q11
   refine wpOp_step rfl (fun K' hK' => ?_)
   rw [if_pos (by rfl)]
   go_simp
   exact hK' _ _ ⟨x0, x1, x2, x3, x4, x5, x6, x7, x8, x9, x10, _, _, x13, x14, x15, x16, y2, y3, rfl, gL, gB, f0, f1, f2, f3, f4, f5, f6, f7, f9, f10, (fun _ => rfl), (fun _ => rfl), f13, f14, f15, f16, f17, f18⟩
  ·have q12 := f12 (hdep 12 (by kernel_rfl))
   subst q12
   refine wpOp_step rfl (fun K' hK' => ?_)
   rw [if_pos (by rfl)]
   go_simp
   exact hK' _ _ ⟨x0, x1, x2, x3, x4, x5, x6, x7, x8, x9, x10, x11, _, _, x14, x15, x16, y2, y3, rfl, gL, gB, f0, f1, f2, f3, f4, f5, f6, f7, f9, f10, f11, (fun _ => rfl), (fun _ => rfl), f14, f15, f16, f17, f18⟩
  ·have q12 := f12 (hdep 12 (by kernel_rfl))
   have q13 := f13 (hdep 13 (by kernel_rfl))
   subst q12
   subst q13
   have hc := cell_at gL HW5.out (cell_lt HW5.out)
   refine wpOp_step rfl (fun K' hK' => ?_)
   rw [if_pos (by rfl)]
   go_simp
   exact hK' _ _ ⟨x0, x1, x2, x3, x4, x5, x6, x7, x8, x9, x10, x11, _, _, _, x15, x16, y2, y3, rfl, gL, gB, f0, f1, f2, f3, f4, f5, f6, f7, f9, f10, f11, (fun _ => rfl), (fun _ => rfl), (fun _ => rfl), f15, f16, f17, f18⟩
  ·have q12 := f12 (hdep 12 (by kernel_rfl))
   have q14 := f14 (hdep 14 (by kernel_rfl))
   subst q12
   subst q14
   refine wpOp_step rfl (fun K' hK' => ?_)
   rw [if_pos (by rfl)]
   go_simp
   exact hK' _ _ ⟨x0, x1, x2, x3, x4, x5, x6, x7, x8, x9, x10, x11, _, x13, _, _, x16, y2, y3, rfl, gL, gB, f0, f1, f2, f3, f4, f5, f6, f7, f9, f10, f11, (fun _ => rfl), f13, (fun _ => rfl), (fun _ => rfl), f16, f17, f18⟩
  ·have q12 := f12 (hdep 12 (by kernel_rfl))
   have q15 := f15 (hdep 15 (by kernel_rfl))
   subst q12
   subst q15
   refine wpOp_step rfl (fun K' hK' => ?_)
   rw [if_pos (by rfl)]
   go_simp
   exact hK' _ _ ⟨x0, x1, x2, x3, x4, x5, x6, x7, x8, x9, x10, x11, _, x13, x14, _, _, y2, y3, rfl, gL, gB, f0, f1, f2, f3, f4, f5, f6, f7, f9, f10, f11, (fun _ => rfl), f13, f14, (fun _ => rfl), (fun _ => rfl), f17, f18⟩
  ·skip
   refine wpOp_step rfl (fun K' hK' => ?_)
   rw [if_pos (by rfl)]
   go_simp
   exact hK' _ _ ⟨x0, x1, x2, x3, x4, x5, x6, x7, x8, x9, x10, x11, x12, x13, x14, x15, x16, _, y3, rfl, gL, gB, f0, f1, f2, f3, f4, f5, f6, f7, f9, f10, f11, f12, f13, f14, f15, f16, (fun _ => rfl), f18⟩
  ·have q16 := f16 (hdep 16 (by kernel_rfl))
   subst q16
   refine wpOp_step rfl (fun K' hK' => ?_)
   rw [if_pos (by rfl)]
   go_simp
   exact hK' _ _ ⟨x0, x1, x2, x3, x4, x5, x6, x7, x8, x9, x10, x11, x12, x13, x14, x15, _, y2, _, rfl, gL, gB, f0, f1, f2, f3, f4, f5, f6, f7, f9, f10, f11, f12, f13, f14, f15, (fun _ => rfl), f17, (fun _ => rfl)⟩
 ·rintro D' a' W' hD' ⟨x0, x1, x2, x3, x4, x5, x6, x7, x8, x9, x10, x11, x12, x13, x14, x15, x16, y2, y3, rfl, gL, gB, f0, f1, f2, f3, f4, f5, f6, f7, f9, f10, f11, f12, f13, f14, f15, f16, f17, f18⟩
  obtain ⟨Z, qZ, hZ⟩ := gB (hD' 8 (by decide))
  have q2 := f17 (hD' 17 (by decide))
  have q3 := f18 (hD' 18 (by decide))
  subst qZ
  subst q2
  subst q3
  have HLF := Lib.hid (HL3.out.trans gL)
  have HZF := Lib.hid hZ
  clear gL gB hZ f0 f1 f2 f3 f4 f5 f6 f7 f9 f10 f11 f12 f13 f14 f15 f16 f17 f18
  go_wp2_with fail
  go_ret2
  cases b with
  | false => exact ⟨HLF.out, _, _, rfl, .inr ⟨rfl, fun x hx => .inr (fun h => by have h2 := h rfl; have h3 := of_decide_eq_false HB2.out.1; dsimp only at h2; omega)⟩⟩
  | true =>
   have h3 := of_decide_eq_true HB2.out.1
   have hLI : Ld = ⟨(Lib.itoa lim).toArray⟩ := by
    rw [← HLN.out.2, ← HLN.out.1, IntWalk.u64_in lim (by have := HB2.out.2; omega)]
    obtain ⟨m, rfl⟩ : ∃ m : Nat, lim = m := ⟨lim.toNat, by have := HB2.out.2; omega⟩
    rw [itoa_pos]
    rfl
   exact ⟨HLF.out, _, _, rfl, .inl ⟨rfl, fun _ => ⟨HB2.out.2, h3⟩, 5, [showH ht.toNat hg.toNat hrr, word key, Lib.itoa lim], rfl, by simp [fldsN, shFs, shF, HO.out.1], _, _, rfl, .inr ⟨Z, 0, rfl, fun j hj => by
    rw [Nat.zero_add, Lib.cell_of_heap HZF.out]
    have hj2 : j = 0 ∨ j = 1 ∨ j = 2 := by simp at hj; omega
    rcases hj2 with rfl | rfl | rfl
    ·rw [← HO.out.2.1]; rfl
    ·rw [← EWK.out]; rfl
    ·rw [hLI]; rfl⟩⟩⟩
end Go.Proofs.YtkbedajbbakihaaGreatDoor
