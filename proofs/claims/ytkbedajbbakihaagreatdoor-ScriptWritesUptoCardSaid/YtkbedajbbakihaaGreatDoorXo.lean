/-
 Texts of this proof, put together (Wq3R, Wq4R): each part's first words say what it holds. Conditions: as each part says.
-/
import Derived.Test.YtkbedajbbakihaaGreatDoorYu
import Derived.Test.YtkbedajbbakihaaGreatDoorXk
import Derived.Test.YtkbedajbbakihaaGreatDoorXm
import Derived.Test.YtkbedajbbakihaaGreatDoorXn
/-
 The reference's words of a request, walked (more deeds). Conditions: the request's fields fit.
-/
namespace Go.Proofs.YtkbedajbbakihaaGreatDoor
open Go.RowKit Go.Sort Go.Lib
set_option linter.unusedSimpArgs false
set_option linter.unusedVariables false
set_option maxRecDepth 100000 in
set_option maxHeartbeats 8000000 in
theorem refWords_A6 (r : Req) (hr : r.fit) (hd : r.deed = 6) (ho : okH r.ht r.hg r.hr = true) (w : World) : Calls Tryz.prog 63 #[reqV r] w (WEnd r w) := by
 obtain ⟨d, ht, hg, hrr, key, val, old, lim, ten, qk, qb, rts⟩ := r
 have f1 := hr.hr
 have f2 := hr.rts
 have f3 := hr.ten
 have f4 := hr.hg
 have f5 := hr.qk
 have f6 := hr.qb
 have f7 := hr.lim
 have f8 := hr.len
 have f9 := hr.deed
 dsimp only at f1 f2 f3 f4 f5 f6 f7 f8 f9 hd ho ⊢
 subst hd
 obtain ⟨K, hK⟩ : ∃ K : ByteArray, ⟨key.toArray⟩ = K := ⟨_, rfl⟩
 obtain ⟨Vb, hVb⟩ : ∃ V : ByteArray, ⟨val.toArray⟩ = V := ⟨_, rfl⟩
 obtain ⟨O, hO⟩ : ∃ O : ByteArray, ⟨old.toArray⟩ = O := ⟨_, rfl⟩
 have hA : reqA ⟨6, ht, hg, hrr, key, val, old, lim, ten, qk, qb, rts⟩ = #[.int .i64 6, .int .i64 ht, .int .u32 hg, .int .u8 hrr, .string K, .string Vb, .string O, .int .i64 lim, .int .i64 ten, .int .u64 qk, .int .u64 qb, .int .u8 rts] := by rw [← hK, ← hVb, ← hO]; rfl
 have hks : K.size = key.length := by rw [← hK, size_mk]
 have hvs : Vb.size = val.length := by rw [← hVb, size_mk]
 have hos : O.size = old.length := by rw [← hO, size_mk]
 have hkd : K.data.toList = key := by rw [← hK]
 have hvd : Vb.data.toList = val := by rw [← hVb]
 have hod : O.data.toList = old := by rw [← hO]
 have HC := Lib.hid (show ∀ (U : World) (b : Nat), U.heap[b]? = some (.cells #[.int .i64 6, .int .i64 ht, .int .u32 hg, .int .u8 hrr, .string K, .string Vb, .string O, .int .i64 lim, .int .i64 ten, .int .u64 qk, .int .u64 qb, .int .u8 rts] 39 (0, 0)) → U.cell? ⟨b, 0, none⟩ = some (.int .i64 6) ∧ U.cell? ⟨b, 1, none⟩ = some (.int .i64 ht) ∧ U.cell? ⟨b, 2, none⟩ = some (.int .u32 hg) ∧ U.cell? ⟨b, 3, none⟩ = some (.int .u8 hrr) ∧ U.cell? ⟨b, 4, none⟩ = some (.string K) ∧ U.cell? ⟨b, 5, none⟩ = some (.string Vb) ∧ U.cell? ⟨b, 6, none⟩ = some (.string O) ∧ U.cell? ⟨b, 7, none⟩ = some (.int .i64 lim) ∧ U.cell? ⟨b, 8, none⟩ = some (.int .i64 ten) ∧ U.cell? ⟨b, 9, none⟩ = some (.int .u64 qk) ∧ U.cell? ⟨b, 10, none⟩ = some (.int .u64 qb) ∧ U.cell? ⟨b, 11, none⟩ = some (.int .u8 rts) from fun U b h => by
  refine ⟨?_, ?_, ?_, ?_, ?_, ?_, ?_, ?_, ?_, ?_, ?_, ?_⟩ <;> (rw [Lib.cell_of_heap h]; rfl))
 obtain ⟨tn, htn⟩ : ∃ tn : Int, IntKind.u64.wrap ten = tn := ⟨_, rfl⟩
 have htb : 0 ≤ tn ∧ tn ≤ 18446744073709551615 := by rw [← htn, IntKind.wrap_u64]; omega
 obtain ⟨Td, hTd⟩ : ∃ T : ByteArray, ⟨(Lib.decDigits tn.toNat).toArray⟩ = T := ⟨_, rfl⟩
 have HDT := Lib.hid (show ∀ W0, Calls Tryz.prog 71 #[.int .u64 tn] W0 fun e w' => e = .returned (.string Td) ∧ Later W0 w' from fun W0 => by
  have h := refDec_is tn.toNat (by omega) W0
  rw [Int.toNat_of_nonneg htb.1, hTd] at h
  exact h)
 unfold reqV
 rw [hA]
 have hob := (okH_iff _ _ _).1 ho
 obtain ⟨S, hS⟩ : ∃ S : ByteArray, ⟨(showH ht.toNat hg.toNat hrr).toArray⟩ = S := ⟨_, rfl⟩
 have HSH := Lib.hid (show ∀ W0, Calls Tryz.prog 117 #[.agg #[.int .i64 ht, .int .u32 hg, .int .u8 hrr]] W0 fun e w' => e = .returned (.tuple #[.string S, .int .i64 0]) ∧ Later W0 w' from fun W0 => by
  have h := refShow_yes ht.toNat hg.toNat hrr W0 (by rw [Int.toNat_of_nonneg (by omega), Int.toNat_of_nonneg (by omega)]; exact ho) (by omega)
  rw [Int.toNat_of_nonneg (by omega), Int.toNat_of_nonneg (by omega), hS] at h
  exact h)
 obtain ⟨B, hB⟩ : ∃ B, w.heap.size = B := ⟨_, rfl⟩
 have hk0 : (w.alloc (.cells #[.int .i64 6, .int .i64 ht, .int .u32 hg, .int .u8 hrr, .string K, .string Vb, .string O, .int .i64 lim, .int .i64 ten, .int .u64 qk, .int .u64 qb, .int .u8 rts] 39)).heap[w.heap.size]? = some (.cells #[.int .i64 6, .int .i64 ht, .int .u32 hg, .int .u8 hrr, .string K, .string Vb, .string O, .int .i64 lim, .int .i64 ten, .int .u64 qk, .int .u64 qb, .int .u8 rts] 39 (0, 0)) := (MapKept.heap_alloc w _).1
 have HK0 := Lib.hid hk0
 have HBB := Lib.hid hB
 have HO := Lib.hid (And.intro ho (And.intro hS hob))
 clear ho hS hob
 have HKK := Lib.hid (And.intro hks (And.intro hvs (And.intro hos (And.intro hkd (And.intro hvd hod)))))
 have HF8 := Lib.hid f8
 clear hk0 hB htb hks hvs hos hkd hvd hod hK hVb hO hA f1 f2 f3 f4 f5 f6 f8 f9
 go_enter Tryz.func63, Tryz.ntmps63
 go_wp2_with fail
 refine (HSH.out _).mono ?_
 rintro y1 w1 ⟨rfl, hl1⟩
 have hk1 := (hl1.block _ (Array.getElem?_eq_some_iff.1 HK0.out).1).trans HK0.out
 have HL1 := Lib.hid (((Later.refl w).alloc _).trans hl1)
 have HK1 := Lib.hid hk1
 obtain ⟨e0, e1, e2, e3, e4, e5, e6, e7, e8, e9, e10, e11⟩ := HC.out w1 w.heap.size hk1
 clear hl1 hk1
 go_wp2_with fail
 refine (HDT.out _).mono ?_
 rintro y2 w2 ⟨rfl, hl2⟩
 obtain ⟨V2, hV2⟩ : ∃ V, w2.alloc (.cells #[.string Td] 9) = V := ⟨_, rfl⟩
 have hl3 : Later w1 V2 := by rw [← hV2]; exact hl2.alloc _
 have hk2 := (hl3.block _ (Array.getElem?_eq_some_iff.1 HK1.out).1).trans HK1.out
 have hz : V2.heap[w2.heap.size]? = some (.cells #[.string Td] 9 (0, 0)) := by rw [← hV2]; exact (MapKept.heap_alloc w2 _).1
 have HV2 := Lib.hid hV2
 have HW12 := Lib.hid hl2
 have HZ := Lib.hid hz
 have HK2 := Lib.hid hk2
 have HL3 := Lib.hid (HL1.out.trans hl3)
 clear hl2 hl3 hz hV2 e0 e1 e2 e3 e4 e5 e6 e7 e8 e9 e10 e11
 obtain ⟨e0, e1, e2, e3, e4, e5, e6, e7, e8, e9, e10, e11⟩ := HC.out V2 w.heap.size hk2
 clear hk2
 go_upto_region 3 with fail
 rw [HV2.out]
 go_wp2_with fail
 go_ret2
 exact ⟨HL3.out.alloc _, _, _, rfl, .inl ⟨rfl, by intro h; simp at h, 6, [showH ht.toNat hg.toNat hrr], rfl, by simp [fldsN, shFs, shF, HO.out.1], SL.new V2 _ 1 rfl _ (by rw [← HO.out.2.1]; rfl)⟩⟩
set_option maxRecDepth 100000 in
set_option maxHeartbeats 8000000 in
theorem refWords_D7 (r : Req) (hr : r.fit) (hd : r.deed = 7) (ho : 0 ≤ r.ten ∧ r.ten ≤ 999999999) (w : World) : Calls Tryz.prog 63 #[reqV r] w (WEnd r w) := by
 obtain ⟨d, ht, hg, hrr, key, val, old, lim, ten, qk, qb, rts⟩ := r
 have f1 := hr.hr
 have f2 := hr.rts
 have f3 := hr.ten
 have f4 := hr.hg
 have f5 := hr.qk
 have f6 := hr.qb
 have f7 := hr.lim
 have f8 := hr.len
 have f9 := hr.deed
 dsimp only at f1 f2 f3 f4 f5 f6 f7 f8 f9 hd ho ⊢
 subst hd
 obtain ⟨K, hK⟩ : ∃ K : ByteArray, ⟨key.toArray⟩ = K := ⟨_, rfl⟩
 obtain ⟨Vb, hVb⟩ : ∃ V : ByteArray, ⟨val.toArray⟩ = V := ⟨_, rfl⟩
 obtain ⟨O, hO⟩ : ∃ O : ByteArray, ⟨old.toArray⟩ = O := ⟨_, rfl⟩
 have hA : reqA ⟨7, ht, hg, hrr, key, val, old, lim, ten, qk, qb, rts⟩ = #[.int .i64 7, .int .i64 ht, .int .u32 hg, .int .u8 hrr, .string K, .string Vb, .string O, .int .i64 lim, .int .i64 ten, .int .u64 qk, .int .u64 qb, .int .u8 rts] := by rw [← hK, ← hVb, ← hO]; rfl
 have hks : K.size = key.length := by rw [← hK, size_mk]
 have hvs : Vb.size = val.length := by rw [← hVb, size_mk]
 have hos : O.size = old.length := by rw [← hO, size_mk]
 have hkd : K.data.toList = key := by rw [← hK]
 have hvd : Vb.data.toList = val := by rw [← hVb]
 have hod : O.data.toList = old := by rw [← hO]
 have HC := Lib.hid (show ∀ (U : World) (b : Nat), U.heap[b]? = some (.cells #[.int .i64 7, .int .i64 ht, .int .u32 hg, .int .u8 hrr, .string K, .string Vb, .string O, .int .i64 lim, .int .i64 ten, .int .u64 qk, .int .u64 qb, .int .u8 rts] 39 (0, 0)) → U.cell? ⟨b, 0, none⟩ = some (.int .i64 7) ∧ U.cell? ⟨b, 1, none⟩ = some (.int .i64 ht) ∧ U.cell? ⟨b, 2, none⟩ = some (.int .u32 hg) ∧ U.cell? ⟨b, 3, none⟩ = some (.int .u8 hrr) ∧ U.cell? ⟨b, 4, none⟩ = some (.string K) ∧ U.cell? ⟨b, 5, none⟩ = some (.string Vb) ∧ U.cell? ⟨b, 6, none⟩ = some (.string O) ∧ U.cell? ⟨b, 7, none⟩ = some (.int .i64 lim) ∧ U.cell? ⟨b, 8, none⟩ = some (.int .i64 ten) ∧ U.cell? ⟨b, 9, none⟩ = some (.int .u64 qk) ∧ U.cell? ⟨b, 10, none⟩ = some (.int .u64 qb) ∧ U.cell? ⟨b, 11, none⟩ = some (.int .u8 rts) from fun U b h => by
  refine ⟨?_, ?_, ?_, ?_, ?_, ?_, ?_, ?_, ?_, ?_, ?_, ?_⟩ <;> (rw [Lib.cell_of_heap h]; rfl))
 obtain ⟨tn, htn⟩ : ∃ tn : Int, IntKind.u64.wrap ten = tn := ⟨_, rfl⟩
 have htb : 0 ≤ tn ∧ tn ≤ 18446744073709551615 := by rw [← htn, IntKind.wrap_u64]; omega
 obtain ⟨Td, hTd⟩ : ∃ T : ByteArray, ⟨(Lib.decDigits tn.toNat).toArray⟩ = T := ⟨_, rfl⟩
 have HDT := Lib.hid (show ∀ W0, Calls Tryz.prog 71 #[.int .u64 tn] W0 fun e w' => e = .returned (.string Td) ∧ Later W0 w' from fun W0 => by
  have h := refDec_is tn.toNat (by omega) W0
  rw [Int.toNat_of_nonneg htb.1, hTd] at h
  exact h)
 unfold reqV
 rw [hA]
 have HSH := Lib.hid (show ∀ W0, Calls Tryz.prog 117 #[.agg #[.int .i64 ht, .int .u32 hg, .int .u8 hrr]] W0 fun e w' => (∃ S c, e = .returned (.tuple #[.string S, .int .i64 c])) ∧ Later W0 w' from fun W0 => by
  cases ho2 : okH ht hg hrr with
  | true =>
   have hob := (okH_iff _ _ _).1 ho2
   have h := refShow_yes ht.toNat hg.toNat hrr W0 (by rw [Int.toNat_of_nonneg (by omega), Int.toNat_of_nonneg (by omega)]; exact ho2) (by omega)
   rw [Int.toNat_of_nonneg (by omega), Int.toNat_of_nonneg (by omega)] at h
   exact h.mono fun e w' h => ⟨⟨_, _, h.1⟩, h.2⟩
  | false => exact (refShow_no ht hg hrr W0 f1.1 f1.2 ho2).mono fun e w' h => ⟨⟨_, _, h.1⟩, h.2⟩)
 obtain ⟨B, hB⟩ : ∃ B, w.heap.size = B := ⟨_, rfl⟩
 have hk0 : (w.alloc (.cells #[.int .i64 7, .int .i64 ht, .int .u32 hg, .int .u8 hrr, .string K, .string Vb, .string O, .int .i64 lim, .int .i64 ten, .int .u64 qk, .int .u64 qb, .int .u8 rts] 39)).heap[w.heap.size]? = some (.cells #[.int .i64 7, .int .i64 ht, .int .u32 hg, .int .u8 hrr, .string K, .string Vb, .string O, .int .i64 lim, .int .i64 ten, .int .u64 qk, .int .u64 qb, .int .u8 rts] 39 (0, 0)) := (MapKept.heap_alloc w _).1
 have HK0 := Lib.hid hk0
 have HBB := Lib.hid hB
 have HO := Lib.hid ho
 have c4 : decide (ten < (0 : Int)) = false := decide_eq_false (by omega)
 have c5 : decide ((999999999 : Int) < ten) = false := decide_eq_false (by omega)
 clear ho
 have HF5 := Lib.hid (And.intro f5 f6)
 have HTN := Lib.hid (And.intro htn hTd)
 clear hTd
 clear hk0 hB htb hks hvs hos hkd hvd hod hK hVb hO hA f1 f2 f3 f4 f5 f6 f8 f9
 go_enter Tryz.func63, Tryz.ntmps63
 go_wp2_with fail
 refine (HSH.out _).mono ?_
 rintro y1 w1 ⟨⟨S, c, rfl⟩, hl1⟩
 have hk1 := (hl1.block _ (Array.getElem?_eq_some_iff.1 HK0.out).1).trans HK0.out
 have HL1 := Lib.hid (((Later.refl w).alloc _).trans hl1)
 have HK1 := Lib.hid hk1
 obtain ⟨e0, e1, e2, e3, e4, e5, e6, e7, e8, e9, e10, e11⟩ := HC.out w1 w.heap.size hk1
 clear hl1 hk1
 go_wp2_with fail
 refine (HDT.out _).mono ?_
 rintro y2 w2 ⟨rfl, hl2⟩
 obtain ⟨V2, hV2⟩ : ∃ V, w2.alloc (.cells #[.string Td] 9) = V := ⟨_, rfl⟩
 have hl3 : Later w1 V2 := by rw [← hV2]; exact hl2.alloc _
 have hk2 := (hl3.block _ (Array.getElem?_eq_some_iff.1 HK1.out).1).trans HK1.out
 have hz : V2.heap[w2.heap.size]? = some (.cells #[.string Td] 9 (0, 0)) := by rw [← hV2]; exact (MapKept.heap_alloc w2 _).1
 have HV2 := Lib.hid hV2
 have HW12 := Lib.hid hl2
 have HZ := Lib.hid hz
 have HK2 := Lib.hid hk2
 have HL3 := Lib.hid (HL1.out.trans hl3)
 clear hl2 hl3 hz hV2 e0 e1 e2 e3 e4 e5 e6 e7 e8 e9 e10 e11
 obtain ⟨e0, e1, e2, e3, e4, e5, e6, e7, e8, e9, e10, e11⟩ := HC.out V2 w.heap.size hk2
 clear hk2
 go_upto_region 3 with fail
 rw [HV2.out]
 have hten : Td = ⟨(Lib.itoa ten).toArray⟩ := by
  rw [← HTN.out.2, ← HTN.out.1, IntWalk.u64_in ten (by have := HO.out; omega)]
  obtain ⟨m, rfl⟩ : ∃ m : Nat, ten = m := ⟨ten.toNat, by have := HO.out; omega⟩
  rw [itoa_pos]
  rfl
 have HTE := Lib.hid hten
 clear hten
 have HW6 := Lib.hid e9
 have HW7 := Lib.hid e10
 have hw2 : w.heap.size ≤ w2.heap.size := by have h1 := HL1.out.size; have h2 := HW12.out.size; omega
 have HOWN := Lib.hid (show V2.ownsRow w.heap.size 9 1 (.slice (some ⟨w2.heap.size, 0, none⟩) 1 1) 1 [.string Td] from ⟨rfl, .inr ⟨_, _, _, rfl, hw2, HZ.out, Nat.le_refl _, by unfold maxLen; omega, rfl, rfl⟩⟩)
 have hi9 : (Tryz.prog.info? 9).map (fun i => (i.zero, i.size, i.bytes)) = some (some (.string ⟨#[]⟩), 1, 16) := by kernel_rfl
 have HI9 := Lib.hid (info_parts hi9)
 obtain ⟨Kd, hKd⟩ : ∃ T : ByteArray, ⟨(Lib.decDigits qk.toNat).toArray⟩ = T := ⟨_, rfl⟩
 have HDK := Lib.hid (show ∀ W0, Calls Tryz.prog 71 #[.int .u64 qk] W0 fun e w' => e = .returned (.string Kd) ∧ Later W0 w' from fun W0 => by
  have h5 := HF5.out
  have h := refDec_is qk.toNat (by omega) W0
  rw [Int.toNat_of_nonneg (by omega), hKd] at h
  exact h)
 have EKd := Lib.hid hKd
 clear hKd
 obtain ⟨Bd, hBd⟩ : ∃ T : ByteArray, ⟨(Lib.decDigits qb.toNat).toArray⟩ = T := ⟨_, rfl⟩
 have HDB := Lib.hid (show ∀ W0, Calls Tryz.prog 71 #[.int .u64 qb] W0 fun e w' => e = .returned (.string Bd) ∧ Later W0 w' from fun W0 => by
  have h5 := HF5.out
  have h := refDec_is qb.toNat (by omega) W0
  rw [Int.toNat_of_nonneg (by omega), hBd] at h
  exact h)
 have EBd := Lib.hid hBd
 clear hBd
 clear hi9 hw2
 go_wp2_with fail
 clear e0 e1 e2 e3 e4 e5 e6 e7 e8 e9 e10 e11
 refine wp_region_iv mixedW (fun D' a' W' => ∃ x0 x1 x2 x3 x4 x5 x6 x7 x8 x9 x10 y2 y3, a' = ⟨#[Value.agg #[Value.int IntKind.i64 7, Value.int IntKind.i64 ht, Value.int IntKind.u32 hg, Value.int IntKind.u8 hrr, Value.string K, Value.string Vb, Value.string O, Value.int IntKind.i64 lim, Value.int IntKind.i64 ten, Value.int IntKind.u64 qk, Value.int IntKind.u64 qb, Value.int IntKind.u8 rts], Value.pointer (some { block := w.heap.size, off := 0 }), y2, y3, Value.string S, Value.int IntKind.i64 c, Value.slice (some { block := w2.heap.size, off := 0 }) 1 1, undef, undef, Value.tuple #[Value.string S, Value.int IntKind.i64 c], Value.pointer (some { block := w.heap.size, off := 1 }), Value.agg #[Value.int IntKind.i64 ht, Value.int IntKind.u32 hg, Value.int IntKind.u8 hrr], Value.tuple #[Value.string S, Value.int IntKind.i64 c], Value.string S, Value.int IntKind.i64 c, Value.pointer (some { block := w.heap.size, off := 8 }), Value.int IntKind.i64 ten, Value.int IntKind.u64 tn, Value.string Td, Value.slice (some { block := w2.heap.size, off := 0 }) 1 1, Value.pointer (some { block := w.heap.size, off := 0 }), Value.int IntKind.i64 7, Value.bool true, Value.bool true, Value.pointer (some { block := w.heap.size, off := 0 }), Value.int IntKind.i64 7, Value.bool false, Value.bool false, Value.bool false, undef, undef, Value.bool false, Value.bool false, Value.pointer (some { block := w.heap.size, off := 0 }), Value.int IntKind.i64 7, Value.bool true, Value.bool true, Value.pointer (some { block := w.heap.size, off := 8 }), Value.int IntKind.i64 ten, Value.bool false, Value.bool false, Value.pointer (some { block := w.heap.size, off := 8 }), Value.int IntKind.i64 ten, Value.bool false, Value.bool false, Value.bool false, Value.bool false, Value.pointer (some { block := w.heap.size, off := 0 }), Value.int IntKind.i64 7, Value.bool false, Value.bool false, Value.bool false, undef, undef, undef, undef, undef, Value.bool false, Value.bool false, undef, undef, undef, undef, undef, undef, undef, undef, Value.bool false, Value.bool false, undef, undef, undef, undef, undef, undef, undef, undef, undef, undef, undef, Value.bool false, Value.bool false, undef, undef, undef, undef, undef, undef, undef, undef, undef, undef, undef, undef, undef, undef, undef, undef, undef, Value.bool false, Value.bool false, undef, undef, Value.bool true, Value.bool true, x0, x1, x2, x3, x4, x5, x6, x7, x8, x9, x10, undef, undef, undef, undef, undef, undef, undef, undef, undef, undef, undef, undef, undef, undef, undef, undef, undef], []⟩ ∧ (D' 10 = false → Later V2 W') ∧ (D' 9 = true → D' 10 = false → ∃ Z, x9 = .slice (some ⟨Z, 0, none⟩) 2 2 ∧ W'.heap[Z]? = some (.cells #[.string Kd, .string Bd] 9 (0, 0))) ∧ (D' 10 = true → ∃ a3 c3, x10 = .slice a3 3 c3 ∧ Later w W' ∧ W'.ownsRow w.heap.size 9 1 x10 3 [.string Td, .string Kd, .string Bd]) ∧ (D' 0 = true → x0 = .slice (some ⟨w2.heap.size, 0, none⟩) 1 1) ∧ (D' 1 = true → x1 = .pointer (some ⟨w.heap.size, 9, none⟩)) ∧ (D' 2 = true → x2 = .pointer (some ⟨w.heap.size, 9, none⟩)) ∧ (D' 3 = true → x3 = .int .u64 qk) ∧ (D' 4 = true → x4 = .string Kd) ∧ (D' 5 = true → x5 = .pointer (some ⟨w.heap.size, 9, none⟩)) ∧ (D' 6 = true → x6 = .pointer (some ⟨w.heap.size, 10, none⟩)) ∧ (D' 7 = true → x7 = .int .u64 qb) ∧ (D' 8 = true → x8 = .string Bd) ∧ (D' 11 = true → y2 = x10) ∧ (D' 12 = true → y3 = .bool true)) (by kernel_rfl) ?_ ?_ ?_
 ·exact ⟨_, _, _, _, _, _, _, _, _, _, _, _, _, rfl, (fun _ => (Later.refl V2).drew), (fun h _ => by cases h), (fun h => by cases h), (fun h => by cases h), (fun h => by cases h), (fun h => by cases h), (fun h => by cases h), (fun h => by cases h), (fun h => by cases h), (fun h => by cases h), (fun h => by cases h), (fun h => by cases h), (fun h => by cases h), (fun h => by cases h)⟩
 ·intro i D' a' W' hi hDi hdep hcl hI
  obtain ⟨x0, x1, x2, x3, x4, x5, x6, x7, x8, x9, x10, y2, y3, rfl, gL, gB, gA, f0, f1, f2, f3, f4, f5, f6, f7, f8, f11, f12⟩ := hI
  have hi' : i = 0 ∨ i = 1 ∨ i = 2 ∨ i = 3 ∨ i = 4 ∨ i = 5 ∨ i = 6 ∨ i = 7 ∨ i = 8 ∨ i = 9 ∨ i = 10 ∨ i = 11 ∨ i = 12 := by
   have : i < 13 := hi
   omega
  rcases hi' with rfl | rfl | rfl | rfl | rfl | rfl | rfl | rfl | rfl | rfl | rfl | rfl | rfl
  ·skip
   refine wpOp_step rfl (fun K' hK' => ?_)
   rw [if_pos (by rfl)]
   go_simp
   exact hK' _ _ ⟨_, x1, x2, x3, x4, x5, x6, x7, x8, x9, x10, y2, y3, rfl, gL, gB, gA, (fun _ => rfl), f1, f2, f3, f4, f5, f6, f7, f8, f11, f12⟩
  ·skip
   refine wpOp_step rfl (fun K' hK' => ?_)
   rw [if_pos (by rfl)]
   go_simp
   exact hK' _ _ ⟨x0, _, x2, x3, x4, x5, x6, x7, x8, x9, x10, y2, y3, rfl, gL, gB, gA, f0, (fun _ => rfl), f2, f3, f4, f5, f6, f7, f8, f11, f12⟩
  ·have q1 := f1 (hdep 1 (by kernel_rfl))
   subst q1
   refine wpOp_step rfl (fun K' hK' => ?_)
   rw [if_pos (by rfl)]
   go_simp
   exact hK' _ _ ⟨x0, _, _, x3, x4, x5, x6, x7, x8, x9, x10, y2, y3, rfl, gL, gB, gA, f0, (fun _ => rfl), (fun _ => rfl), f3, f4, f5, f6, f7, f8, f11, f12⟩
  ·have q2 := f2 (hdep 2 (by kernel_rfl))
   subst q2
   have h10 : D' 10 = false := by
    cases h : D' 10 with
    | false => rfl
    | true =>
     have b9 := hcl 10 (by decide) h 9 (by kernel_rfl)
     have b4 := hcl 9 (by decide) b9 4 (by kernel_rfl)
     have b3 := hcl 4 (by decide) b4 3 (by kernel_rfl)
     rw [hDi] at b3; cases b3
   have hc := cell_at (gL h10) HW6.out (cell_lt HW6.out)
   refine wpOp_step rfl (fun K' hK' => ?_)
   rw [if_pos (by rfl)]
   go_simp
   exact hK' _ _ ⟨x0, x1, _, _, x4, x5, x6, x7, x8, x9, x10, y2, y3, rfl, gL, gB, gA, f0, f1, (fun _ => rfl), (fun _ => rfl), f4, f5, f6, f7, f8, f11, f12⟩
  ·have q3 := f3 (hdep 3 (by kernel_rfl))
   subst q3
   have h10 : D' 10 = false := by
    cases h : D' 10 with
    | false => rfl
    | true =>
     have b9 := hcl 10 (by decide) h 9 (by kernel_rfl)
     have b4 := hcl 9 (by decide) b9 4 (by kernel_rfl)
     rw [hDi] at b4; cases b4
   refine wpOp_step rfl (fun K' hK' => ?_)
   rw [if_pos (by rfl)]
   go_simp
   refine (HDK.out W').mono ?_
   rintro y8 w8 ⟨rfl, hl1⟩
   exact hK' _ _ ⟨x0, x1, x2, _, _, x5, x6, x7, x8, x9, x10, y2, y3, rfl, (fun _ => (gL h10).trans hl1), (fun h _ => by obtain ⟨Z, h1, h2⟩ := gB h h10; exact ⟨Z, h1, (hl1.block Z (Array.getElem?_eq_some_iff.1 h2).1).trans h2⟩), (fun h => absurd (show D' 10 = true from h) (by rw [h10]; decide)), f0, f1, f2, (fun _ => rfl), (fun _ => rfl), f5, f6, f7, f8, f11, f12⟩
  ·skip
   refine wpOp_step rfl (fun K' hK' => ?_)
   rw [if_pos (by rfl)]
   go_simp
   exact hK' _ _ ⟨x0, x1, x2, x3, x4, _, x6, x7, x8, x9, x10, y2, y3, rfl, gL, gB, gA, f0, f1, f2, f3, f4, (fun _ => rfl), f6, f7, f8, f11, f12⟩
  ·have q5 := f5 (hdep 5 (by kernel_rfl))
   subst q5
   refine wpOp_step rfl (fun K' hK' => ?_)
   rw [if_pos (by rfl)]
   go_simp
   exact hK' _ _ ⟨x0, x1, x2, x3, x4, _, _, x7, x8, x9, x10, y2, y3, rfl, gL, gB, gA, f0, f1, f2, f3, f4, (fun _ => rfl), (fun _ => rfl), f7, f8, f11, f12⟩
  ·have q6 := f6 (hdep 6 (by kernel_rfl))
   subst q6
   have h10 : D' 10 = false := by
    cases h : D' 10 with
    | false => rfl
    | true =>
     have b9 := hcl 10 (by decide) h 9 (by kernel_rfl)
     have b8 := hcl 9 (by decide) b9 8 (by kernel_rfl)
     have b7 := hcl 8 (by decide) b8 7 (by kernel_rfl)
     rw [hDi] at b7; cases b7
   have hc := cell_at (gL h10) HW7.out (cell_lt HW7.out)
   refine wpOp_step rfl (fun K' hK' => ?_)
   rw [if_pos (by rfl)]
   go_simp
   exact hK' _ _ ⟨x0, x1, x2, x3, x4, x5, _, _, x8, x9, x10, y2, y3, rfl, gL, gB, gA, f0, f1, f2, f3, f4, f5, (fun _ => rfl), (fun _ => rfl), f8, f11, f12⟩
  ·have q7 := f7 (hdep 7 (by kernel_rfl))
   subst q7
   have h10 : D' 10 = false := by
    cases h : D' 10 with
    | false => rfl
    | true =>
     have b9 := hcl 10 (by decide) h 9 (by kernel_rfl)
     have b8 := hcl 9 (by decide) b9 8 (by kernel_rfl)
     rw [hDi] at b8; cases b8
   refine wpOp_step rfl (fun K' hK' => ?_)
   rw [if_pos (by rfl)]
   go_simp
   refine (HDB.out W').mono ?_
   rintro y8 w8 ⟨rfl, hl1⟩
   exact hK' _ _ ⟨x0, x1, x2, x3, x4, x5, x6, _, _, x9, x10, y2, y3, rfl, (fun _ => (gL h10).trans hl1), (fun h _ => by obtain ⟨Z, h1, h2⟩ := gB h h10; exact ⟨Z, h1, (hl1.block Z (Array.getElem?_eq_some_iff.1 h2).1).trans h2⟩), (fun h => absurd (show D' 10 = true from h) (by rw [h10]; decide)), f0, f1, f2, f3, f4, f5, f6, (fun _ => rfl), (fun _ => rfl), f11, f12⟩
  ·have q4 := f4 (hdep 4 (by kernel_rfl))
   have q8 := f8 (hdep 8 (by kernel_rfl))
   subst q4
   subst q8
   have h10 : D' 10 = false := by
    cases h : D' 10 with
    | false => rfl
    | true =>
     have b9 := hcl 10 (by decide) h 9 (by kernel_rfl)
     rw [hDi] at b9; cases b9
   refine wpOp_step rfl (fun K' hK' => ?_)
   rw [if_pos (by rfl)]
   go_simp
   exact hK' _ _ ⟨x0, x1, x2, x3, _, x5, x6, x7, _, _, x10, y2, y3, rfl, (fun _ => (gL h10).alloc _), (fun _ _ => ⟨W'.heap.size, rfl, (MapKept.heap_alloc W' _).1⟩), (fun h => absurd (show D' 10 = true from h) (by rw [h10]; decide)), f0, f1, f2, f3, (fun _ => rfl), f5, f6, f7, (fun _ => rfl), f11, f12⟩
  ·have q0 := f0 (hdep 0 (by kernel_rfl))
   subst q0
   have h9 := hdep 9 (by kernel_rfl)
   obtain ⟨Z, qZ, hZ⟩ := gB h9 hDi
   subst qZ
   have hl := gL hDi
   have hn11 := hcl.no hDi (k := 11) (by decide) (by kernel_rfl)
   obtain ⟨i0, hi0, hz0, hz1, hz2⟩ := HI9.out
   have hown := ownsRow_later HOWN.out hl
   have hsz := (HL3.out.trans hl).size
   refine wpOp_step rfl (fun K' hK' => ?_)
   rw [if_pos (by rfl)]
   refine wp_append_own _ (.tmp 105) (.tmp 114) 29 rfl w.heap.size 9 i0 _ 1 16 Tryz.underlying29 hi0 hz0 hz1 hz2 rfl (by decide) _ 1 [.string Td] rfl hown ⟨Z, 0, none⟩ 2 2 [.string Kd, .string Bd] rfl rfl ?_ ?_ ?_ ?_ ?_ ?_
   ·intro j u hu
    rw [addr_addW, Lib.cell_of_heap hZ]
    rw [← Array.getElem?_toList]
    exact hu
   ·intro u hu
    revert u
    simp [Value.oneCell']
   ·unfold maxLen; omega
   ·omega
   ·exact hsz
   ·intro s3 W8 hown8 hgrow _
    obtain ⟨a3, c3, h33⟩ := slice_of_own hown8
    subst h33
    exact hK' _ _ ⟨_, x1, x2, x3, x4, x5, x6, x7, x8, _, _, y2, y3, rfl, (fun h => (updD_self h).elim), (fun _ h => (updD_self h).elim), (fun _ => ⟨a3, c3, rfl, later_grown (HL3.out.trans hl) hown hgrow, hown8⟩), (fun _ => rfl), f1, f2, f3, f4, f5, f6, f7, f8, (fun h => absurd (show D' 11 = true from h) (by rw [hn11]; decide)), f12⟩
  ·skip
   refine wpOp_step rfl (fun K' hK' => ?_)
   rw [if_pos (by rfl)]
   go_simp
   exact hK' _ _ ⟨x0, x1, x2, x3, x4, x5, x6, x7, x8, x9, x10, _, y3, rfl, gL, gB, gA, f0, f1, f2, f3, f4, f5, f6, f7, f8, (fun _ => rfl), f12⟩
  ·skip
   refine wpOp_step rfl (fun K' hK' => ?_)
   rw [if_pos (by rfl)]
   go_simp
   exact hK' _ _ ⟨x0, x1, x2, x3, x4, x5, x6, x7, x8, x9, x10, y2, _, rfl, gL, gB, gA, f0, f1, f2, f3, f4, f5, f6, f7, f8, f11, (fun _ => rfl)⟩
 ·rintro D' a' W' hD' ⟨x0, x1, x2, x3, x4, x5, x6, x7, x8, x9, x10, y2, y3, rfl, gL, gB, gA, f0, f1, f2, f3, f4, f5, f6, f7, f8, f11, f12⟩
  obtain ⟨a3, c3, qA, hlA, hownA⟩ := gA (hD' 10 (by decide))
  have q2 := f11 (hD' 11 (by decide))
  have q3 := f12 (hD' 12 (by decide))
  subst qA
  subst q2
  subst q3
  have HLF := Lib.hid hlA
  have HOF := Lib.hid hownA
  clear gL gB gA hlA hownA f0 f1 f2 f3 f4 f5 f6 f7 f8 f11 f12
  go_wp2_with fail
  go_ret2
  exact ⟨HLF.out, _, _, rfl, .inl ⟨rfl, by intro h; simp at h, 7, [Lib.itoa ten, Lib.decDigits qk.toNat, Lib.decDigits qb.toNat], rfl, by simp [fldsN, shFs, shF, HO.out], SL.of_owns (by have h := HOF.out; rw [← EKd.out, ← EBd.out, HTE.out] at h; exact h)⟩⟩
set_option maxRecDepth 100000 in
set_option maxHeartbeats 8000000 in
theorem refWords_D8 (r : Req) (hr : r.fit) (hd : r.deed = 8) (ho : 0 ≤ r.ten ∧ r.ten ≤ 999999999) (w : World) : Calls Tryz.prog 63 #[reqV r] w (WEnd r w) := by
 obtain ⟨d, ht, hg, hrr, key, val, old, lim, ten, qk, qb, rts⟩ := r
 have f1 := hr.hr
 have f2 := hr.rts
 have f3 := hr.ten
 have f4 := hr.hg
 have f5 := hr.qk
 have f6 := hr.qb
 have f7 := hr.lim
 have f8 := hr.len
 have f9 := hr.deed
 dsimp only at f1 f2 f3 f4 f5 f6 f7 f8 f9 hd ho ⊢
 subst hd
 obtain ⟨K, hK⟩ : ∃ K : ByteArray, ⟨key.toArray⟩ = K := ⟨_, rfl⟩
 obtain ⟨Vb, hVb⟩ : ∃ V : ByteArray, ⟨val.toArray⟩ = V := ⟨_, rfl⟩
 obtain ⟨O, hO⟩ : ∃ O : ByteArray, ⟨old.toArray⟩ = O := ⟨_, rfl⟩
 have hA : reqA ⟨8, ht, hg, hrr, key, val, old, lim, ten, qk, qb, rts⟩ = #[.int .i64 8, .int .i64 ht, .int .u32 hg, .int .u8 hrr, .string K, .string Vb, .string O, .int .i64 lim, .int .i64 ten, .int .u64 qk, .int .u64 qb, .int .u8 rts] := by rw [← hK, ← hVb, ← hO]; rfl
 have hks : K.size = key.length := by rw [← hK, size_mk]
 have hvs : Vb.size = val.length := by rw [← hVb, size_mk]
 have hos : O.size = old.length := by rw [← hO, size_mk]
 have hkd : K.data.toList = key := by rw [← hK]
 have hvd : Vb.data.toList = val := by rw [← hVb]
 have hod : O.data.toList = old := by rw [← hO]
 have HC := Lib.hid (show ∀ (U : World) (b : Nat), U.heap[b]? = some (.cells #[.int .i64 8, .int .i64 ht, .int .u32 hg, .int .u8 hrr, .string K, .string Vb, .string O, .int .i64 lim, .int .i64 ten, .int .u64 qk, .int .u64 qb, .int .u8 rts] 39 (0, 0)) → U.cell? ⟨b, 0, none⟩ = some (.int .i64 8) ∧ U.cell? ⟨b, 1, none⟩ = some (.int .i64 ht) ∧ U.cell? ⟨b, 2, none⟩ = some (.int .u32 hg) ∧ U.cell? ⟨b, 3, none⟩ = some (.int .u8 hrr) ∧ U.cell? ⟨b, 4, none⟩ = some (.string K) ∧ U.cell? ⟨b, 5, none⟩ = some (.string Vb) ∧ U.cell? ⟨b, 6, none⟩ = some (.string O) ∧ U.cell? ⟨b, 7, none⟩ = some (.int .i64 lim) ∧ U.cell? ⟨b, 8, none⟩ = some (.int .i64 ten) ∧ U.cell? ⟨b, 9, none⟩ = some (.int .u64 qk) ∧ U.cell? ⟨b, 10, none⟩ = some (.int .u64 qb) ∧ U.cell? ⟨b, 11, none⟩ = some (.int .u8 rts) from fun U b h => by
  refine ⟨?_, ?_, ?_, ?_, ?_, ?_, ?_, ?_, ?_, ?_, ?_, ?_⟩ <;> (rw [Lib.cell_of_heap h]; rfl))
 obtain ⟨tn, htn⟩ : ∃ tn : Int, IntKind.u64.wrap ten = tn := ⟨_, rfl⟩
 have htb : 0 ≤ tn ∧ tn ≤ 18446744073709551615 := by rw [← htn, IntKind.wrap_u64]; omega
 obtain ⟨Td, hTd⟩ : ∃ T : ByteArray, ⟨(Lib.decDigits tn.toNat).toArray⟩ = T := ⟨_, rfl⟩
 have HDT := Lib.hid (show ∀ W0, Calls Tryz.prog 71 #[.int .u64 tn] W0 fun e w' => e = .returned (.string Td) ∧ Later W0 w' from fun W0 => by
  have h := refDec_is tn.toNat (by omega) W0
  rw [Int.toNat_of_nonneg htb.1, hTd] at h
  exact h)
 unfold reqV
 rw [hA]
 have HSH := Lib.hid (show ∀ W0, Calls Tryz.prog 117 #[.agg #[.int .i64 ht, .int .u32 hg, .int .u8 hrr]] W0 fun e w' => (∃ S c, e = .returned (.tuple #[.string S, .int .i64 c])) ∧ Later W0 w' from fun W0 => by
  cases ho2 : okH ht hg hrr with
  | true =>
   have hob := (okH_iff _ _ _).1 ho2
   have h := refShow_yes ht.toNat hg.toNat hrr W0 (by rw [Int.toNat_of_nonneg (by omega), Int.toNat_of_nonneg (by omega)]; exact ho2) (by omega)
   rw [Int.toNat_of_nonneg (by omega), Int.toNat_of_nonneg (by omega)] at h
   exact h.mono fun e w' h => ⟨⟨_, _, h.1⟩, h.2⟩
  | false => exact (refShow_no ht hg hrr W0 f1.1 f1.2 ho2).mono fun e w' h => ⟨⟨_, _, h.1⟩, h.2⟩)
 obtain ⟨B, hB⟩ : ∃ B, w.heap.size = B := ⟨_, rfl⟩
 have hk0 : (w.alloc (.cells #[.int .i64 8, .int .i64 ht, .int .u32 hg, .int .u8 hrr, .string K, .string Vb, .string O, .int .i64 lim, .int .i64 ten, .int .u64 qk, .int .u64 qb, .int .u8 rts] 39)).heap[w.heap.size]? = some (.cells #[.int .i64 8, .int .i64 ht, .int .u32 hg, .int .u8 hrr, .string K, .string Vb, .string O, .int .i64 lim, .int .i64 ten, .int .u64 qk, .int .u64 qb, .int .u8 rts] 39 (0, 0)) := (MapKept.heap_alloc w _).1
 have HK0 := Lib.hid hk0
 have HBB := Lib.hid hB
 have HO := Lib.hid ho
 have c4 : decide (ten < (0 : Int)) = false := decide_eq_false (by omega)
 have c5 : decide ((999999999 : Int) < ten) = false := decide_eq_false (by omega)
 clear ho
 have HTN := Lib.hid (And.intro htn hTd)
 clear hTd
 clear hk0 hB htb hks hvs hos hkd hvd hod hK hVb hO hA f1 f2 f3 f4 f5 f6 f8 f9
 go_enter Tryz.func63, Tryz.ntmps63
 go_wp2_with fail
 refine (HSH.out _).mono ?_
 rintro y1 w1 ⟨⟨S, c, rfl⟩, hl1⟩
 have hk1 := (hl1.block _ (Array.getElem?_eq_some_iff.1 HK0.out).1).trans HK0.out
 have HL1 := Lib.hid (((Later.refl w).alloc _).trans hl1)
 have HK1 := Lib.hid hk1
 obtain ⟨e0, e1, e2, e3, e4, e5, e6, e7, e8, e9, e10, e11⟩ := HC.out w1 w.heap.size hk1
 clear hl1 hk1
 go_wp2_with fail
 refine (HDT.out _).mono ?_
 rintro y2 w2 ⟨rfl, hl2⟩
 obtain ⟨V2, hV2⟩ : ∃ V, w2.alloc (.cells #[.string Td] 9) = V := ⟨_, rfl⟩
 have hl3 : Later w1 V2 := by rw [← hV2]; exact hl2.alloc _
 have hk2 := (hl3.block _ (Array.getElem?_eq_some_iff.1 HK1.out).1).trans HK1.out
 have hz : V2.heap[w2.heap.size]? = some (.cells #[.string Td] 9 (0, 0)) := by rw [← hV2]; exact (MapKept.heap_alloc w2 _).1
 have HV2 := Lib.hid hV2
 have HW12 := Lib.hid hl2
 have HZ := Lib.hid hz
 have HK2 := Lib.hid hk2
 have HL3 := Lib.hid (HL1.out.trans hl3)
 clear hl2 hl3 hz hV2 e0 e1 e2 e3 e4 e5 e6 e7 e8 e9 e10 e11
 obtain ⟨e0, e1, e2, e3, e4, e5, e6, e7, e8, e9, e10, e11⟩ := HC.out V2 w.heap.size hk2
 clear hk2
 go_upto_region 3 with fail
 rw [HV2.out]
 have hten : Td = ⟨(Lib.itoa ten).toArray⟩ := by
  rw [← HTN.out.2, ← HTN.out.1, IntWalk.u64_in ten (by have := HO.out; omega)]
  obtain ⟨m, rfl⟩ : ∃ m : Nat, ten = m := ⟨ten.toNat, by have := HO.out; omega⟩
  rw [itoa_pos]
  rfl
 have HTE := Lib.hid hten
 clear hten
 go_wp2_with fail
 go_ret2
 exact ⟨HL3.out, _, _, rfl, .inl ⟨rfl, by intro h; simp at h, 8, [Lib.itoa ten], rfl, by simp [fldsN, shFs, shF, HO.out], _, _, rfl, .inr ⟨w2.heap.size, 0, rfl, fun j hj => by
  obtain rfl : j = 0 := by simpa using hj
  rw [Nat.zero_add, Lib.cell_of_heap HZ.out, HTE.out]
  rfl⟩⟩⟩
set_option maxRecDepth 100000 in
set_option maxHeartbeats 8000000 in
theorem refWords_D9 (r : Req) (hr : r.fit) (hd : r.deed = 9) (ho : 0 ≤ r.ten ∧ r.ten ≤ 999999999) (w : World) : Calls Tryz.prog 63 #[reqV r] w (WEnd r w) := by
 obtain ⟨d, ht, hg, hrr, key, val, old, lim, ten, qk, qb, rts⟩ := r
 have f1 := hr.hr
 have f2 := hr.rts
 have f3 := hr.ten
 have f4 := hr.hg
 have f5 := hr.qk
 have f6 := hr.qb
 have f7 := hr.lim
 have f8 := hr.len
 have f9 := hr.deed
 dsimp only at f1 f2 f3 f4 f5 f6 f7 f8 f9 hd ho ⊢
 subst hd
 obtain ⟨K, hK⟩ : ∃ K : ByteArray, ⟨key.toArray⟩ = K := ⟨_, rfl⟩
 obtain ⟨Vb, hVb⟩ : ∃ V : ByteArray, ⟨val.toArray⟩ = V := ⟨_, rfl⟩
 obtain ⟨O, hO⟩ : ∃ O : ByteArray, ⟨old.toArray⟩ = O := ⟨_, rfl⟩
 have hA : reqA ⟨9, ht, hg, hrr, key, val, old, lim, ten, qk, qb, rts⟩ = #[.int .i64 9, .int .i64 ht, .int .u32 hg, .int .u8 hrr, .string K, .string Vb, .string O, .int .i64 lim, .int .i64 ten, .int .u64 qk, .int .u64 qb, .int .u8 rts] := by rw [← hK, ← hVb, ← hO]; rfl
 have hks : K.size = key.length := by rw [← hK, size_mk]
 have hvs : Vb.size = val.length := by rw [← hVb, size_mk]
 have hos : O.size = old.length := by rw [← hO, size_mk]
 have hkd : K.data.toList = key := by rw [← hK]
 have hvd : Vb.data.toList = val := by rw [← hVb]
 have hod : O.data.toList = old := by rw [← hO]
 have HC := Lib.hid (show ∀ (U : World) (b : Nat), U.heap[b]? = some (.cells #[.int .i64 9, .int .i64 ht, .int .u32 hg, .int .u8 hrr, .string K, .string Vb, .string O, .int .i64 lim, .int .i64 ten, .int .u64 qk, .int .u64 qb, .int .u8 rts] 39 (0, 0)) → U.cell? ⟨b, 0, none⟩ = some (.int .i64 9) ∧ U.cell? ⟨b, 1, none⟩ = some (.int .i64 ht) ∧ U.cell? ⟨b, 2, none⟩ = some (.int .u32 hg) ∧ U.cell? ⟨b, 3, none⟩ = some (.int .u8 hrr) ∧ U.cell? ⟨b, 4, none⟩ = some (.string K) ∧ U.cell? ⟨b, 5, none⟩ = some (.string Vb) ∧ U.cell? ⟨b, 6, none⟩ = some (.string O) ∧ U.cell? ⟨b, 7, none⟩ = some (.int .i64 lim) ∧ U.cell? ⟨b, 8, none⟩ = some (.int .i64 ten) ∧ U.cell? ⟨b, 9, none⟩ = some (.int .u64 qk) ∧ U.cell? ⟨b, 10, none⟩ = some (.int .u64 qb) ∧ U.cell? ⟨b, 11, none⟩ = some (.int .u8 rts) from fun U b h => by
  refine ⟨?_, ?_, ?_, ?_, ?_, ?_, ?_, ?_, ?_, ?_, ?_, ?_⟩ <;> (rw [Lib.cell_of_heap h]; rfl))
 obtain ⟨tn, htn⟩ : ∃ tn : Int, IntKind.u64.wrap ten = tn := ⟨_, rfl⟩
 have htb : 0 ≤ tn ∧ tn ≤ 18446744073709551615 := by rw [← htn, IntKind.wrap_u64]; omega
 obtain ⟨Td, hTd⟩ : ∃ T : ByteArray, ⟨(Lib.decDigits tn.toNat).toArray⟩ = T := ⟨_, rfl⟩
 have HDT := Lib.hid (show ∀ W0, Calls Tryz.prog 71 #[.int .u64 tn] W0 fun e w' => e = .returned (.string Td) ∧ Later W0 w' from fun W0 => by
  have h := refDec_is tn.toNat (by omega) W0
  rw [Int.toNat_of_nonneg htb.1, hTd] at h
  exact h)
 unfold reqV
 rw [hA]
 have HSH := Lib.hid (show ∀ W0, Calls Tryz.prog 117 #[.agg #[.int .i64 ht, .int .u32 hg, .int .u8 hrr]] W0 fun e w' => (∃ S c, e = .returned (.tuple #[.string S, .int .i64 c])) ∧ Later W0 w' from fun W0 => by
  cases ho2 : okH ht hg hrr with
  | true =>
   have hob := (okH_iff _ _ _).1 ho2
   have h := refShow_yes ht.toNat hg.toNat hrr W0 (by rw [Int.toNat_of_nonneg (by omega), Int.toNat_of_nonneg (by omega)]; exact ho2) (by omega)
   rw [Int.toNat_of_nonneg (by omega), Int.toNat_of_nonneg (by omega)] at h
   exact h.mono fun e w' h => ⟨⟨_, _, h.1⟩, h.2⟩
  | false => exact (refShow_no ht hg hrr W0 f1.1 f1.2 ho2).mono fun e w' h => ⟨⟨_, _, h.1⟩, h.2⟩)
 obtain ⟨B, hB⟩ : ∃ B, w.heap.size = B := ⟨_, rfl⟩
 have hk0 : (w.alloc (.cells #[.int .i64 9, .int .i64 ht, .int .u32 hg, .int .u8 hrr, .string K, .string Vb, .string O, .int .i64 lim, .int .i64 ten, .int .u64 qk, .int .u64 qb, .int .u8 rts] 39)).heap[w.heap.size]? = some (.cells #[.int .i64 9, .int .i64 ht, .int .u32 hg, .int .u8 hrr, .string K, .string Vb, .string O, .int .i64 lim, .int .i64 ten, .int .u64 qk, .int .u64 qb, .int .u8 rts] 39 (0, 0)) := (MapKept.heap_alloc w _).1
 have HK0 := Lib.hid hk0
 have HBB := Lib.hid hB
 have HO := Lib.hid ho
 have c4 : decide (ten < (0 : Int)) = false := decide_eq_false (by omega)
 have c5 : decide ((999999999 : Int) < ten) = false := decide_eq_false (by omega)
 clear ho
 have HTN := Lib.hid (And.intro htn hTd)
 clear hTd
 have HR := Lib.hid (fun W0 => refRights_is rts f2.1 f2.2 W0)
 clear hk0 hB htb hks hvs hos hkd hvd hod hK hVb hO hA f1 f2 f3 f4 f5 f6 f8 f9
 go_enter Tryz.func63, Tryz.ntmps63
 go_wp2_with fail
 refine (HSH.out _).mono ?_
 rintro y1 w1 ⟨⟨S, c, rfl⟩, hl1⟩
 have hk1 := (hl1.block _ (Array.getElem?_eq_some_iff.1 HK0.out).1).trans HK0.out
 have HL1 := Lib.hid (((Later.refl w).alloc _).trans hl1)
 have HK1 := Lib.hid hk1
 obtain ⟨e0, e1, e2, e3, e4, e5, e6, e7, e8, e9, e10, e11⟩ := HC.out w1 w.heap.size hk1
 clear hl1 hk1
 go_wp2_with fail
 refine (HDT.out _).mono ?_
 rintro y2 w2 ⟨rfl, hl2⟩
 obtain ⟨V2, hV2⟩ : ∃ V, w2.alloc (.cells #[.string Td] 9) = V := ⟨_, rfl⟩
 have hl3 : Later w1 V2 := by rw [← hV2]; exact hl2.alloc _
 have hk2 := (hl3.block _ (Array.getElem?_eq_some_iff.1 HK1.out).1).trans HK1.out
 have hz : V2.heap[w2.heap.size]? = some (.cells #[.string Td] 9 (0, 0)) := by rw [← hV2]; exact (MapKept.heap_alloc w2 _).1
 have HV2 := Lib.hid hV2
 have HW12 := Lib.hid hl2
 have HZ := Lib.hid hz
 have HK2 := Lib.hid hk2
 have HL3 := Lib.hid (HL1.out.trans hl3)
 clear hl2 hl3 hz hV2 e0 e1 e2 e3 e4 e5 e6 e7 e8 e9 e10 e11
 obtain ⟨e0, e1, e2, e3, e4, e5, e6, e7, e8, e9, e10, e11⟩ := HC.out V2 w.heap.size hk2
 clear hk2
 go_upto_region 3 with fail
 rw [HV2.out]
 have hten : Td = ⟨(Lib.itoa ten).toArray⟩ := by
  rw [← HTN.out.2, ← HTN.out.1, IntWalk.u64_in ten (by have := HO.out; omega)]
  obtain ⟨m, rfl⟩ : ∃ m : Nat, ten = m := ⟨ten.toNat, by have := HO.out; omega⟩
  rw [itoa_pos]
  rfl
 have HTE := Lib.hid hten
 clear hten
 go_wp2_with fail
 refine (HR.out _).mono ?_
 rintro y3 w3 ⟨hl4, hres⟩
 have HL4 := Lib.hid (HL3.out.trans hl4)
 have hz3 := (hl4.block _ (Array.getElem?_eq_some_iff.1 HZ.out).1).trans HZ.out
 have hw2 : w.heap.size ≤ w2.heap.size := by have h1 := HL1.out.size; have h2 := HW12.out.size; omega
 have hown : w3.ownsRow w.heap.size 9 1 (.slice (some ⟨w2.heap.size, 0, none⟩) 1 1) 1 [.string Td] := ⟨rfl, .inr ⟨_, _, _, rfl, hw2, hz3, Nat.le_refl _, by unfold maxLen; omega, rfl, rfl⟩⟩
 have hi9 : (Tryz.prog.info? 9).map (fun i => (i.zero, i.size, i.bytes)) = some (some (.string ⟨#[]⟩), 1, 16) := by kernel_rfl
 obtain ⟨i0, hi, hz0, hz1, hz2⟩ := info_parts hi9
 have hsz := HL4.out.size
 have HOWN := Lib.hid hown
 clear hl4 hz3 hw2 hi9 e0 e1 e2 e3 e4 e5 e6 e7 e8 e9 e10 e11
 rcases hres with ⟨hr1, rfl⟩ | ⟨hr1, rfl⟩
 ·have HR1 := Lib.hid hr1
  clear hr1
  obtain ⟨Lr, hLr⟩ : ∃ T : ByteArray, ⟨(lettersR rts).toArray⟩ = T := ⟨_, rfl⟩
  rw [hLr]
  have HLR := Lib.hid hLr
  clear hLr
  go_wp2_with (at_builtin; refine wpList_append_own _ rfl _ _ 29 rfl w.heap.size 9 i0 _ 1 16 Tryz.underlying29 hi hz0 hz1 hz2 rfl (by decide) _ _ _ rfl (hown.alloc _) ⟨w3.heap.size, 0, none⟩ 1 1 [.string Lr] rfl rfl (cell_one_new _ _ _) (by simp [Value.oneCell']) ?c3 ?c4 ?c5 ?_)
  case c3 => unfold maxLen; omega
  case c4 => omega
  case c5 => simp; omega
  intro s3 w6 hown6 hgrow _
  have HFL := Lib.hid (later_grown (HL4.out.alloc _) (HOWN.out.alloc _) hgrow)
  obtain ⟨a3, c3, h33⟩ := slice_of_own hown6
  subst h33
  have HO6 := Lib.hid hown6
  clear hown hown6 hgrow hi hz0 hz1 hz2
  go_wp2_with fail
  go_ret2
  exact ⟨HFL.out, _, _, rfl, .inl ⟨rfl, by intro h; simp at h, 9, [Lib.itoa ten, lettersR rts], rfl, by simp [fldsN, shFs, shF, HO.out, HR1.out], SL.of_owns (by have h := HO6.out; rw [← HLR.out, HTE.out] at h; exact h)⟩⟩
 ·have HR1 := Lib.hid hr1
  clear hr1
  obtain ⟨Lr, hLr⟩ : ∃ T : ByteArray, ⟨#[]⟩ = T := ⟨_, rfl⟩
  rw [hLr]
  have HLR := Lib.hid hLr
  clear hLr
  go_wp2_with (at_builtin; refine wpList_append_own _ rfl _ _ 29 rfl w.heap.size 9 i0 _ 1 16 Tryz.underlying29 hi hz0 hz1 hz2 rfl (by decide) _ _ _ rfl (hown.alloc _) ⟨w3.heap.size, 0, none⟩ 1 1 [.string Lr] rfl rfl (cell_one_new _ _ _) (by simp [Value.oneCell']) ?c3 ?c4 ?c5 ?_)
  case c3 => unfold maxLen; omega
  case c4 => omega
  case c5 => simp; omega
  intro s3 w6 hown6 hgrow _
  have HFL := Lib.hid (later_grown (HL4.out.alloc _) (HOWN.out.alloc _) hgrow)
  obtain ⟨a3, c3, h33⟩ := slice_of_own hown6
  subst h33
  have HO6 := Lib.hid hown6
  clear hown hown6 hgrow hi hz0 hz1 hz2
  go_wp2_with fail
  go_ret2
  exact ⟨HFL.out, _, _, rfl, .inr ⟨rfl, fun x hx => .inl (by cases hx; simp [fldsN, shFs, shF, HR1.out])⟩⟩
set_option maxRecDepth 100000 in
set_option maxHeartbeats 8000000 in
theorem refWords_D10 (r : Req) (hr : r.fit) (hd : r.deed = 10) (ho : 0 ≤ r.ten ∧ r.ten ≤ 999999999) (w : World) : Calls Tryz.prog 63 #[reqV r] w (WEnd r w) := by
 obtain ⟨d, ht, hg, hrr, key, val, old, lim, ten, qk, qb, rts⟩ := r
 have f1 := hr.hr
 have f2 := hr.rts
 have f3 := hr.ten
 have f4 := hr.hg
 have f5 := hr.qk
 have f6 := hr.qb
 have f7 := hr.lim
 have f8 := hr.len
 have f9 := hr.deed
 dsimp only at f1 f2 f3 f4 f5 f6 f7 f8 f9 hd ho ⊢
 subst hd
 obtain ⟨K, hK⟩ : ∃ K : ByteArray, ⟨key.toArray⟩ = K := ⟨_, rfl⟩
 obtain ⟨Vb, hVb⟩ : ∃ V : ByteArray, ⟨val.toArray⟩ = V := ⟨_, rfl⟩
 obtain ⟨O, hO⟩ : ∃ O : ByteArray, ⟨old.toArray⟩ = O := ⟨_, rfl⟩
 have hA : reqA ⟨10, ht, hg, hrr, key, val, old, lim, ten, qk, qb, rts⟩ = #[.int .i64 10, .int .i64 ht, .int .u32 hg, .int .u8 hrr, .string K, .string Vb, .string O, .int .i64 lim, .int .i64 ten, .int .u64 qk, .int .u64 qb, .int .u8 rts] := by rw [← hK, ← hVb, ← hO]; rfl
 have hks : K.size = key.length := by rw [← hK, size_mk]
 have hvs : Vb.size = val.length := by rw [← hVb, size_mk]
 have hos : O.size = old.length := by rw [← hO, size_mk]
 have hkd : K.data.toList = key := by rw [← hK]
 have hvd : Vb.data.toList = val := by rw [← hVb]
 have hod : O.data.toList = old := by rw [← hO]
 have HC := Lib.hid (show ∀ (U : World) (b : Nat), U.heap[b]? = some (.cells #[.int .i64 10, .int .i64 ht, .int .u32 hg, .int .u8 hrr, .string K, .string Vb, .string O, .int .i64 lim, .int .i64 ten, .int .u64 qk, .int .u64 qb, .int .u8 rts] 39 (0, 0)) → U.cell? ⟨b, 0, none⟩ = some (.int .i64 10) ∧ U.cell? ⟨b, 1, none⟩ = some (.int .i64 ht) ∧ U.cell? ⟨b, 2, none⟩ = some (.int .u32 hg) ∧ U.cell? ⟨b, 3, none⟩ = some (.int .u8 hrr) ∧ U.cell? ⟨b, 4, none⟩ = some (.string K) ∧ U.cell? ⟨b, 5, none⟩ = some (.string Vb) ∧ U.cell? ⟨b, 6, none⟩ = some (.string O) ∧ U.cell? ⟨b, 7, none⟩ = some (.int .i64 lim) ∧ U.cell? ⟨b, 8, none⟩ = some (.int .i64 ten) ∧ U.cell? ⟨b, 9, none⟩ = some (.int .u64 qk) ∧ U.cell? ⟨b, 10, none⟩ = some (.int .u64 qb) ∧ U.cell? ⟨b, 11, none⟩ = some (.int .u8 rts) from fun U b h => by
  refine ⟨?_, ?_, ?_, ?_, ?_, ?_, ?_, ?_, ?_, ?_, ?_, ?_⟩ <;> (rw [Lib.cell_of_heap h]; rfl))
 obtain ⟨tn, htn⟩ : ∃ tn : Int, IntKind.u64.wrap ten = tn := ⟨_, rfl⟩
 have htb : 0 ≤ tn ∧ tn ≤ 18446744073709551615 := by rw [← htn, IntKind.wrap_u64]; omega
 obtain ⟨Td, hTd⟩ : ∃ T : ByteArray, ⟨(Lib.decDigits tn.toNat).toArray⟩ = T := ⟨_, rfl⟩
 have HDT := Lib.hid (show ∀ W0, Calls Tryz.prog 71 #[.int .u64 tn] W0 fun e w' => e = .returned (.string Td) ∧ Later W0 w' from fun W0 => by
  have h := refDec_is tn.toNat (by omega) W0
  rw [Int.toNat_of_nonneg htb.1, hTd] at h
  exact h)
 unfold reqV
 rw [hA]
 have HSH := Lib.hid (show ∀ W0, Calls Tryz.prog 117 #[.agg #[.int .i64 ht, .int .u32 hg, .int .u8 hrr]] W0 fun e w' => (∃ S c, e = .returned (.tuple #[.string S, .int .i64 c])) ∧ Later W0 w' from fun W0 => by
  cases ho2 : okH ht hg hrr with
  | true =>
   have hob := (okH_iff _ _ _).1 ho2
   have h := refShow_yes ht.toNat hg.toNat hrr W0 (by rw [Int.toNat_of_nonneg (by omega), Int.toNat_of_nonneg (by omega)]; exact ho2) (by omega)
   rw [Int.toNat_of_nonneg (by omega), Int.toNat_of_nonneg (by omega)] at h
   exact h.mono fun e w' h => ⟨⟨_, _, h.1⟩, h.2⟩
  | false => exact (refShow_no ht hg hrr W0 f1.1 f1.2 ho2).mono fun e w' h => ⟨⟨_, _, h.1⟩, h.2⟩)
 obtain ⟨B, hB⟩ : ∃ B, w.heap.size = B := ⟨_, rfl⟩
 have hk0 : (w.alloc (.cells #[.int .i64 10, .int .i64 ht, .int .u32 hg, .int .u8 hrr, .string K, .string Vb, .string O, .int .i64 lim, .int .i64 ten, .int .u64 qk, .int .u64 qb, .int .u8 rts] 39)).heap[w.heap.size]? = some (.cells #[.int .i64 10, .int .i64 ht, .int .u32 hg, .int .u8 hrr, .string K, .string Vb, .string O, .int .i64 lim, .int .i64 ten, .int .u64 qk, .int .u64 qb, .int .u8 rts] 39 (0, 0)) := (MapKept.heap_alloc w _).1
 have HK0 := Lib.hid hk0
 have HBB := Lib.hid hB
 have HO := Lib.hid ho
 have c4 : decide (ten < (0 : Int)) = false := decide_eq_false (by omega)
 have c5 : decide ((999999999 : Int) < ten) = false := decide_eq_false (by omega)
 clear ho
 have HTN := Lib.hid (And.intro htn hTd)
 clear hTd
 clear hk0 hB htb hks hvs hos hkd hvd hod hK hVb hO hA f1 f2 f3 f4 f5 f6 f8 f9
 go_enter Tryz.func63, Tryz.ntmps63
 go_wp2_with fail
 refine (HSH.out _).mono ?_
 rintro y1 w1 ⟨⟨S, c, rfl⟩, hl1⟩
 have hk1 := (hl1.block _ (Array.getElem?_eq_some_iff.1 HK0.out).1).trans HK0.out
 have HL1 := Lib.hid (((Later.refl w).alloc _).trans hl1)
 have HK1 := Lib.hid hk1
 obtain ⟨e0, e1, e2, e3, e4, e5, e6, e7, e8, e9, e10, e11⟩ := HC.out w1 w.heap.size hk1
 clear hl1 hk1
 go_wp2_with fail
 refine (HDT.out _).mono ?_
 rintro y2 w2 ⟨rfl, hl2⟩
 obtain ⟨V2, hV2⟩ : ∃ V, w2.alloc (.cells #[.string Td] 9) = V := ⟨_, rfl⟩
 have hl3 : Later w1 V2 := by rw [← hV2]; exact hl2.alloc _
 have hk2 := (hl3.block _ (Array.getElem?_eq_some_iff.1 HK1.out).1).trans HK1.out
 have hz : V2.heap[w2.heap.size]? = some (.cells #[.string Td] 9 (0, 0)) := by rw [← hV2]; exact (MapKept.heap_alloc w2 _).1
 have HV2 := Lib.hid hV2
 have HW12 := Lib.hid hl2
 have HZ := Lib.hid hz
 have HK2 := Lib.hid hk2
 have HL3 := Lib.hid (HL1.out.trans hl3)
 clear hl2 hl3 hz hV2 e0 e1 e2 e3 e4 e5 e6 e7 e8 e9 e10 e11
 obtain ⟨e0, e1, e2, e3, e4, e5, e6, e7, e8, e9, e10, e11⟩ := HC.out V2 w.heap.size hk2
 clear hk2
 go_upto_region 3 with fail
 rw [HV2.out]
 have hten : Td = ⟨(Lib.itoa ten).toArray⟩ := by
  rw [← HTN.out.2, ← HTN.out.1, IntWalk.u64_in ten (by have := HO.out; omega)]
  obtain ⟨m, rfl⟩ : ∃ m : Nat, ten = m := ⟨ten.toNat, by have := HO.out; omega⟩
  rw [itoa_pos]
  rfl
 have HTE := Lib.hid hten
 clear hten
 go_wp2_with fail
 go_ret2
 exact ⟨HL3.out, _, _, rfl, .inl ⟨rfl, by intro h; simp at h, 10, [Lib.itoa ten], rfl, by simp [fldsN, shFs, shF, HO.out], _, _, rfl, .inr ⟨w2.heap.size, 0, rfl, fun j hj => by
  obtain rfl : j = 0 := by simpa using hj
  rw [Nat.zero_add, Lib.cell_of_heap HZ.out, HTE.out]
  rfl⟩⟩⟩
end Go.Proofs.YtkbedajbbakihaaGreatDoor

/-
 The reference's words of a request, walked (more deeds). Conditions: the request's fields fit.
-/
namespace Go.Proofs.YtkbedajbbakihaaGreatDoor
open Go.RowKit Go.Sort Go.Lib
set_option linter.unusedSimpArgs false
set_option linter.unusedVariables false
theorem refWords_is (r : Req) (hr : r.fit) (hd : 1 ≤ r.deed ∧ r.deed ≤ 10) (w : World) : Calls Tryz.prog 63 #[reqV r] w (WEnd r w) := by
 by_cases h6 : r.deed ≤ 6
 ·cases ho : okH r.ht r.hg r.hr with
  | false => exact refWords_B r hr ⟨hd.1, h6⟩ ho w
  | true =>
   have h2 : r.deed = 1 ∨ r.deed = 2 ∨ r.deed = 3 ∨ r.deed = 4 ∨ r.deed = 5 ∨ r.deed = 6 := by omega
   rcases h2 with h | h | h | h | h | h
   ·exact refWords_A1 r hr h ho w
   ·exact refWords_A2 r hr h ho w
   ·exact refWords_A3 r hr h ho w
   ·exact refWords_A4 r hr h ho w
   ·rcases Int.lt_or_le r.lim 0 with hl | hl
    ·exact refWords_A5n r hr h ho hl w
    ·exact refWords_A5p r hr h ho hl w
   ·exact refWords_A6 r hr h ho w
 ·by_cases ht : 0 ≤ r.ten ∧ r.ten ≤ 999999999
  ·have h2 : r.deed = 7 ∨ r.deed = 8 ∨ r.deed = 9 ∨ r.deed = 10 := by omega
   rcases h2 with h | h | h | h
   ·exact refWords_D7 r hr h ht w
   ·exact refWords_D8 r hr h ht w
   ·exact refWords_D9 r hr h ht w
   ·exact refWords_D10 r hr h ht w
  ·exact refWords_C r hr ⟨by omega, hd.2⟩ (by omega) w
end Go.Proofs.YtkbedajbbakihaaGreatDoor
