/-
 Texts of this proof, put together (Wq1R): each part's first words say what it holds. Conditions: as each part says.
-/
import Derived.Test.YtkbedajbbakihaaGreatDoorYu
import Derived.Test.YtkbedajbbakihaaGreatDoorXk
/-
 The reference's words of a request, walked (more deeds). Conditions: the request's fields fit.
-/
namespace Go.Proofs.YtkbedajbbakihaaGreatDoor
open Go.RowKit Go.Sort Go.Lib
set_option linter.unusedSimpArgs false
set_option linter.unusedVariables false
set_option maxRecDepth 100000 in
set_option maxHeartbeats 8000000 in
theorem refWords_B (r : Req) (hr : r.fit) (hd : 1 ≤ r.deed ∧ r.deed ≤ 6) (ho : okH r.ht r.hg r.hr = false) (w : World) : Calls Tryz.prog 63 #[reqV r] w (WEnd r w) := by
 obtain ⟨d, ht, hg, hrr, key, val, old, lim, ten, qk, qb, rts⟩ := r
 have f1 := hr.hr
 have f2 := hr.rts
 have f3 := hr.ten
 have f4 := hr.hg
 have f5 := hr.qk
 have f6 := hr.qb
 have f7 := hr.lim
 have f8 := hr.len
 have f9 := hr.deed
 dsimp only at f1 f2 f3 f4 f5 f6 f7 f8 f9 hd ho ⊢
 obtain ⟨K, hK⟩ : ∃ K : ByteArray, ⟨key.toArray⟩ = K := ⟨_, rfl⟩
 obtain ⟨Vb, hVb⟩ : ∃ V : ByteArray, ⟨val.toArray⟩ = V := ⟨_, rfl⟩
 obtain ⟨O, hO⟩ : ∃ O : ByteArray, ⟨old.toArray⟩ = O := ⟨_, rfl⟩
 have hA : reqA ⟨d, ht, hg, hrr, key, val, old, lim, ten, qk, qb, rts⟩ = #[.int .i64 d, .int .i64 ht, .int .u32 hg, .int .u8 hrr, .string K, .string Vb, .string O, .int .i64 lim, .int .i64 ten, .int .u64 qk, .int .u64 qb, .int .u8 rts] := by rw [← hK, ← hVb, ← hO]; rfl
 have hks : K.size = key.length := by rw [← hK, size_mk]
 have hvs : Vb.size = val.length := by rw [← hVb, size_mk]
 have hos : O.size = old.length := by rw [← hO, size_mk]
 have hkd : K.data.toList = key := by rw [← hK]
 have hvd : Vb.data.toList = val := by rw [← hVb]
 have hod : O.data.toList = old := by rw [← hO]
 have HC := Lib.hid (show ∀ (U : World) (b : Nat), U.heap[b]? = some (.cells #[.int .i64 d, .int .i64 ht, .int .u32 hg, .int .u8 hrr, .string K, .string Vb, .string O, .int .i64 lim, .int .i64 ten, .int .u64 qk, .int .u64 qb, .int .u8 rts] 39 (0, 0)) → U.cell? ⟨b, 0, none⟩ = some (.int .i64 d) ∧ U.cell? ⟨b, 1, none⟩ = some (.int .i64 ht) ∧ U.cell? ⟨b, 2, none⟩ = some (.int .u32 hg) ∧ U.cell? ⟨b, 3, none⟩ = some (.int .u8 hrr) ∧ U.cell? ⟨b, 4, none⟩ = some (.string K) ∧ U.cell? ⟨b, 5, none⟩ = some (.string Vb) ∧ U.cell? ⟨b, 6, none⟩ = some (.string O) ∧ U.cell? ⟨b, 7, none⟩ = some (.int .i64 lim) ∧ U.cell? ⟨b, 8, none⟩ = some (.int .i64 ten) ∧ U.cell? ⟨b, 9, none⟩ = some (.int .u64 qk) ∧ U.cell? ⟨b, 10, none⟩ = some (.int .u64 qb) ∧ U.cell? ⟨b, 11, none⟩ = some (.int .u8 rts) from fun U b h => by
  refine ⟨?_, ?_, ?_, ?_, ?_, ?_, ?_, ?_, ?_, ?_, ?_, ?_⟩ <;> (rw [Lib.cell_of_heap h]; rfl))
 obtain ⟨tn, htn⟩ : ∃ tn : Int, IntKind.u64.wrap ten = tn := ⟨_, rfl⟩
 have htb : 0 ≤ tn ∧ tn ≤ 18446744073709551615 := by rw [← htn, IntKind.wrap_u64]; omega
 obtain ⟨Td, hTd⟩ : ∃ T : ByteArray, ⟨(Lib.decDigits tn.toNat).toArray⟩ = T := ⟨_, rfl⟩
 have HDT := Lib.hid (show ∀ W0, Calls Tryz.prog 71 #[.int .u64 tn] W0 fun e w' => e = .returned (.string Td) ∧ Later W0 w' from fun W0 => by
  have h := refDec_is tn.toNat (by omega) W0
  rw [Int.toNat_of_nonneg htb.1, hTd] at h
  exact h)
 unfold reqV
 rw [hA]
 have HSH := Lib.hid (show ∀ W0, Calls Tryz.prog 117 #[.agg #[.int .i64 ht, .int .u32 hg, .int .u8 hrr]] W0 fun e w' => e = .returned (.tuple #[.string ⟨#[]⟩, .int .i64 4]) ∧ Later W0 w' from fun W0 => refShow_no ht hg hrr W0 f1.1 f1.2 ho)
 obtain ⟨B, hB⟩ : ∃ B, w.heap.size = B := ⟨_, rfl⟩
 have hk0 : (w.alloc (.cells #[.int .i64 d, .int .i64 ht, .int .u32 hg, .int .u8 hrr, .string K, .string Vb, .string O, .int .i64 lim, .int .i64 ten, .int .u64 qk, .int .u64 qb, .int .u8 rts] 39)).heap[w.heap.size]? = some (.cells #[.int .i64 d, .int .i64 ht, .int .u32 hg, .int .u8 hrr, .string K, .string Vb, .string O, .int .i64 lim, .int .i64 ten, .int .u64 qk, .int .u64 qb, .int .u8 rts] 39 (0, 0)) := (MapKept.heap_alloc w _).1
 have HK0 := Lib.hid hk0
 have HBB := Lib.hid hB
 have c1 : decide ((1 : Int) ≤ d) = true := decide_eq_true hd.1
 have c2 : decide (d ≤ (6 : Int)) = true := decide_eq_true hd.2
 have HO := Lib.hid (And.intro ho hd)
 clear ho hd f7
 clear hk0 hB htb hks hvs hos hkd hvd hod hK hVb hO hA f1 f2 f3 f4 f5 f6 f8 f9
 go_enter Tryz.func63, Tryz.ntmps63
 go_wp2_with fail
 refine (HSH.out _).mono ?_
 rintro y1 w1 ⟨rfl, hl1⟩
 have hk1 := (hl1.block _ (Array.getElem?_eq_some_iff.1 HK0.out).1).trans HK0.out
 have HL1 := Lib.hid (((Later.refl w).alloc _).trans hl1)
 have HK1 := Lib.hid hk1
 obtain ⟨e0, e1, e2, e3, e4, e5, e6, e7, e8, e9, e10, e11⟩ := HC.out w1 w.heap.size hk1
 clear hl1 hk1
 go_wp2_with fail
 refine (HDT.out _).mono ?_
 rintro y2 w2 ⟨rfl, hl2⟩
 obtain ⟨V2, hV2⟩ : ∃ V, w2.alloc (.cells #[.string Td] 9) = V := ⟨_, rfl⟩
 have hl3 : Later w1 V2 := by rw [← hV2]; exact hl2.alloc _
 have hk2 := (hl3.block _ (Array.getElem?_eq_some_iff.1 HK1.out).1).trans HK1.out
 have hz : V2.heap[w2.heap.size]? = some (.cells #[.string Td] 9 (0, 0)) := by rw [← hV2]; exact (MapKept.heap_alloc w2 _).1
 have HV2 := Lib.hid hV2
 have HW12 := Lib.hid hl2
 have HZ := Lib.hid hz
 have HK2 := Lib.hid hk2
 have HL3 := Lib.hid (HL1.out.trans hl3)
 clear hl2 hl3 hz hV2 e0 e1 e2 e3 e4 e5 e6 e7 e8 e9 e10 e11
 obtain ⟨e0, e1, e2, e3, e4, e5, e6, e7, e8, e9, e10, e11⟩ := HC.out V2 w.heap.size hk2
 clear hk2
 go_upto_region 3 with fail
 rw [HV2.out]
 go_wp2_with fail
 go_ret2
 refine ⟨HL3.out, _, _, rfl, .inr ⟨rfl, fun x hx => .inl ?_⟩⟩
 have h0 := HO.out.1
 have h1 := HO.out.2
 obtain ⟨h2, h3, h4⟩ := deedN_of hx
 dsimp only at h2
 have h5 : x = 1 ∨ x = 2 ∨ x = 3 ∨ x = 4 ∨ x = 5 ∨ x = 6 := by omega
 rcases h5 with rfl | rfl | rfl | rfl | rfl | rfl <;> simp [fldsN, shFs, shF, h0]
set_option maxRecDepth 100000 in
set_option maxHeartbeats 8000000 in
theorem refWords_C (r : Req) (hr : r.fit) (hd : 7 ≤ r.deed ∧ r.deed ≤ 10) (ho : r.ten < 0 ∨ (0 ≤ r.ten ∧ 999999999 < r.ten)) (w : World) : Calls Tryz.prog 63 #[reqV r] w (WEnd r w) := by
 obtain ⟨d, ht, hg, hrr, key, val, old, lim, ten, qk, qb, rts⟩ := r
 have f1 := hr.hr
 have f2 := hr.rts
 have f3 := hr.ten
 have f4 := hr.hg
 have f5 := hr.qk
 have f6 := hr.qb
 have f7 := hr.lim
 have f8 := hr.len
 have f9 := hr.deed
 dsimp only at f1 f2 f3 f4 f5 f6 f7 f8 f9 hd ho ⊢
 obtain ⟨K, hK⟩ : ∃ K : ByteArray, ⟨key.toArray⟩ = K := ⟨_, rfl⟩
 obtain ⟨Vb, hVb⟩ : ∃ V : ByteArray, ⟨val.toArray⟩ = V := ⟨_, rfl⟩
 obtain ⟨O, hO⟩ : ∃ O : ByteArray, ⟨old.toArray⟩ = O := ⟨_, rfl⟩
 have hA : reqA ⟨d, ht, hg, hrr, key, val, old, lim, ten, qk, qb, rts⟩ = #[.int .i64 d, .int .i64 ht, .int .u32 hg, .int .u8 hrr, .string K, .string Vb, .string O, .int .i64 lim, .int .i64 ten, .int .u64 qk, .int .u64 qb, .int .u8 rts] := by rw [← hK, ← hVb, ← hO]; rfl
 have hks : K.size = key.length := by rw [← hK, size_mk]
 have hvs : Vb.size = val.length := by rw [← hVb, size_mk]
 have hos : O.size = old.length := by rw [← hO, size_mk]
 have hkd : K.data.toList = key := by rw [← hK]
 have hvd : Vb.data.toList = val := by rw [← hVb]
 have hod : O.data.toList = old := by rw [← hO]
 have HC := Lib.hid (show ∀ (U : World) (b : Nat), U.heap[b]? = some (.cells #[.int .i64 d, .int .i64 ht, .int .u32 hg, .int .u8 hrr, .string K, .string Vb, .string O, .int .i64 lim, .int .i64 ten, .int .u64 qk, .int .u64 qb, .int .u8 rts] 39 (0, 0)) → U.cell? ⟨b, 0, none⟩ = some (.int .i64 d) ∧ U.cell? ⟨b, 1, none⟩ = some (.int .i64 ht) ∧ U.cell? ⟨b, 2, none⟩ = some (.int .u32 hg) ∧ U.cell? ⟨b, 3, none⟩ = some (.int .u8 hrr) ∧ U.cell? ⟨b, 4, none⟩ = some (.string K) ∧ U.cell? ⟨b, 5, none⟩ = some (.string Vb) ∧ U.cell? ⟨b, 6, none⟩ = some (.string O) ∧ U.cell? ⟨b, 7, none⟩ = some (.int .i64 lim) ∧ U.cell? ⟨b, 8, none⟩ = some (.int .i64 ten) ∧ U.cell? ⟨b, 9, none⟩ = some (.int .u64 qk) ∧ U.cell? ⟨b, 10, none⟩ = some (.int .u64 qb) ∧ U.cell? ⟨b, 11, none⟩ = some (.int .u8 rts) from fun U b h => by
  refine ⟨?_, ?_, ?_, ?_, ?_, ?_, ?_, ?_, ?_, ?_, ?_, ?_⟩ <;> (rw [Lib.cell_of_heap h]; rfl))
 obtain ⟨tn, htn⟩ : ∃ tn : Int, IntKind.u64.wrap ten = tn := ⟨_, rfl⟩
 have htb : 0 ≤ tn ∧ tn ≤ 18446744073709551615 := by rw [← htn, IntKind.wrap_u64]; omega
 obtain ⟨Td, hTd⟩ : ∃ T : ByteArray, ⟨(Lib.decDigits tn.toNat).toArray⟩ = T := ⟨_, rfl⟩
 have HDT := Lib.hid (show ∀ W0, Calls Tryz.prog 71 #[.int .u64 tn] W0 fun e w' => e = .returned (.string Td) ∧ Later W0 w' from fun W0 => by
  have h := refDec_is tn.toNat (by omega) W0
  rw [Int.toNat_of_nonneg htb.1, hTd] at h
  exact h)
 unfold reqV
 rw [hA]
 have HSH := Lib.hid (show ∀ W0, Calls Tryz.prog 117 #[.agg #[.int .i64 ht, .int .u32 hg, .int .u8 hrr]] W0 fun e w' => (∃ S c, e = .returned (.tuple #[.string S, .int .i64 c])) ∧ Later W0 w' from fun W0 => by
  cases ho2 : okH ht hg hrr with
  | true =>
   have hob := (okH_iff _ _ _).1 ho2
   have h := refShow_yes ht.toNat hg.toNat hrr W0 (by rw [Int.toNat_of_nonneg (by omega), Int.toNat_of_nonneg (by omega)]; exact ho2) (by omega)
   rw [Int.toNat_of_nonneg (by omega), Int.toNat_of_nonneg (by omega)] at h
   exact h.mono fun e w' h => ⟨⟨_, _, h.1⟩, h.2⟩
  | false => exact (refShow_no ht hg hrr W0 f1.1 f1.2 ho2).mono fun e w' h => ⟨⟨_, _, h.1⟩, h.2⟩)
 obtain ⟨B, hB⟩ : ∃ B, w.heap.size = B := ⟨_, rfl⟩
 have hk0 : (w.alloc (.cells #[.int .i64 d, .int .i64 ht, .int .u32 hg, .int .u8 hrr, .string K, .string Vb, .string O, .int .i64 lim, .int .i64 ten, .int .u64 qk, .int .u64 qb, .int .u8 rts] 39)).heap[w.heap.size]? = some (.cells #[.int .i64 d, .int .i64 ht, .int .u32 hg, .int .u8 hrr, .string K, .string Vb, .string O, .int .i64 lim, .int .i64 ten, .int .u64 qk, .int .u64 qb, .int .u8 rts] 39 (0, 0)) := (MapKept.heap_alloc w _).1
 have HK0 := Lib.hid hk0
 have HBB := Lib.hid hB
 have c1 : decide ((1 : Int) ≤ d) = true := decide_eq_true (by omega)
 have c2 : decide (d ≤ (6 : Int)) = false := decide_eq_false (by omega)
 have c3 : decide ((6 : Int) < d) = true := decide_eq_true (by omega)
 have HO := Lib.hid (And.intro ho hd)
 clear ho hd f7
 clear hk0 hB htb hks hvs hos hkd hvd hod hK hVb hO hA f1 f2 f3 f4 f5 f6 f8 f9
 go_enter Tryz.func63, Tryz.ntmps63
 go_wp2_with fail
 refine (HSH.out _).mono ?_
 rintro y1 w1 ⟨⟨S, c, rfl⟩, hl1⟩
 have hk1 := (hl1.block _ (Array.getElem?_eq_some_iff.1 HK0.out).1).trans HK0.out
 have HL1 := Lib.hid (((Later.refl w).alloc _).trans hl1)
 have HK1 := Lib.hid hk1
 obtain ⟨e0, e1, e2, e3, e4, e5, e6, e7, e8, e9, e10, e11⟩ := HC.out w1 w.heap.size hk1
 clear hl1 hk1
 go_wp2_with fail
 refine (HDT.out _).mono ?_
 rintro y2 w2 ⟨rfl, hl2⟩
 obtain ⟨V2, hV2⟩ : ∃ V, w2.alloc (.cells #[.string Td] 9) = V := ⟨_, rfl⟩
 have hl3 : Later w1 V2 := by rw [← hV2]; exact hl2.alloc _
 have hk2 := (hl3.block _ (Array.getElem?_eq_some_iff.1 HK1.out).1).trans HK1.out
 have hz : V2.heap[w2.heap.size]? = some (.cells #[.string Td] 9 (0, 0)) := by rw [← hV2]; exact (MapKept.heap_alloc w2 _).1
 have HV2 := Lib.hid hV2
 have HW12 := Lib.hid hl2
 have HZ := Lib.hid hz
 have HK2 := Lib.hid hk2
 have HL3 := Lib.hid (HL1.out.trans hl3)
 clear hl2 hl3 hz hV2 e0 e1 e2 e3 e4 e5 e6 e7 e8 e9 e10 e11
 obtain ⟨e0, e1, e2, e3, e4, e5, e6, e7, e8, e9, e10, e11⟩ := HC.out V2 w.heap.size hk2
 clear hk2
 go_upto_region 3 with fail
 rw [HV2.out]
 have HFIN := Lib.hid (show WEnd ⟨d, ht, hg, hrr, key, val, old, lim, ten, qk, qb, rts⟩ w (.returned (.tuple #[.slice none 0 0, .bool false])) V2 from ⟨HL3.out, _, _, rfl, .inr ⟨rfl, fun x hx => .inl (by
  have h0 := HO.out.1
  have h1 := HO.out.2
  obtain ⟨h2, h3, h4⟩ := deedN_of hx
  dsimp only at h2
  have h5 : x = 7 ∨ x = 8 ∨ x = 9 ∨ x = 10 := by omega
  have h6 : ¬ (0 ≤ ten ∧ ten ≤ 999999999) := by omega
  rcases h5 with rfl | rfl | rfl | rfl <;> simp [fldsN, shFs, shF, h6])⟩⟩)
 rcases HO.out.1 with h6 | ⟨h6, h7⟩
 ·have c4 : decide (ten < (0 : Int)) = true := decide_eq_true h6
  clear h6
  go_wp2_with fail
  go_ret2
  exact HFIN.out
 ·have c4 : decide (ten < (0 : Int)) = false := decide_eq_false (by omega)
  have c5 : decide ((999999999 : Int) < ten) = true := decide_eq_true h7
  clear h6 h7
  go_wp2_with fail
  go_ret2
  exact HFIN.out
set_option maxRecDepth 100000 in
set_option maxHeartbeats 8000000 in
theorem refWords_A1 (r : Req) (hr : r.fit) (hd : r.deed = 1) (ho : okH r.ht r.hg r.hr = true) (w : World) : Calls Tryz.prog 63 #[reqV r] w (WEnd r w) := by
 obtain ⟨d, ht, hg, hrr, key, val, old, lim, ten, qk, qb, rts⟩ := r
 have f1 := hr.hr
 have f2 := hr.rts
 have f3 := hr.ten
 have f4 := hr.hg
 have f5 := hr.qk
 have f6 := hr.qb
 have f7 := hr.lim
 have f8 := hr.len
 have f9 := hr.deed
 dsimp only at f1 f2 f3 f4 f5 f6 f7 f8 f9 hd ho ⊢
 subst hd
 obtain ⟨K, hK⟩ : ∃ K : ByteArray, ⟨key.toArray⟩ = K := ⟨_, rfl⟩
 obtain ⟨Vb, hVb⟩ : ∃ V : ByteArray, ⟨val.toArray⟩ = V := ⟨_, rfl⟩
 obtain ⟨O, hO⟩ : ∃ O : ByteArray, ⟨old.toArray⟩ = O := ⟨_, rfl⟩
 have hA : reqA ⟨1, ht, hg, hrr, key, val, old, lim, ten, qk, qb, rts⟩ = #[.int .i64 1, .int .i64 ht, .int .u32 hg, .int .u8 hrr, .string K, .string Vb, .string O, .int .i64 lim, .int .i64 ten, .int .u64 qk, .int .u64 qb, .int .u8 rts] := by rw [← hK, ← hVb, ← hO]; rfl
 have hks : K.size = key.length := by rw [← hK, size_mk]
 have hvs : Vb.size = val.length := by rw [← hVb, size_mk]
 have hos : O.size = old.length := by rw [← hO, size_mk]
 have hkd : K.data.toList = key := by rw [← hK]
 have hvd : Vb.data.toList = val := by rw [← hVb]
 have hod : O.data.toList = old := by rw [← hO]
 have HC := Lib.hid (show ∀ (U : World) (b : Nat), U.heap[b]? = some (.cells #[.int .i64 1, .int .i64 ht, .int .u32 hg, .int .u8 hrr, .string K, .string Vb, .string O, .int .i64 lim, .int .i64 ten, .int .u64 qk, .int .u64 qb, .int .u8 rts] 39 (0, 0)) → U.cell? ⟨b, 0, none⟩ = some (.int .i64 1) ∧ U.cell? ⟨b, 1, none⟩ = some (.int .i64 ht) ∧ U.cell? ⟨b, 2, none⟩ = some (.int .u32 hg) ∧ U.cell? ⟨b, 3, none⟩ = some (.int .u8 hrr) ∧ U.cell? ⟨b, 4, none⟩ = some (.string K) ∧ U.cell? ⟨b, 5, none⟩ = some (.string Vb) ∧ U.cell? ⟨b, 6, none⟩ = some (.string O) ∧ U.cell? ⟨b, 7, none⟩ = some (.int .i64 lim) ∧ U.cell? ⟨b, 8, none⟩ = some (.int .i64 ten) ∧ U.cell? ⟨b, 9, none⟩ = some (.int .u64 qk) ∧ U.cell? ⟨b, 10, none⟩ = some (.int .u64 qb) ∧ U.cell? ⟨b, 11, none⟩ = some (.int .u8 rts) from fun U b h => by
  refine ⟨?_, ?_, ?_, ?_, ?_, ?_, ?_, ?_, ?_, ?_, ?_, ?_⟩ <;> (rw [Lib.cell_of_heap h]; rfl))
 obtain ⟨tn, htn⟩ : ∃ tn : Int, IntKind.u64.wrap ten = tn := ⟨_, rfl⟩
 have htb : 0 ≤ tn ∧ tn ≤ 18446744073709551615 := by rw [← htn, IntKind.wrap_u64]; omega
 obtain ⟨Td, hTd⟩ : ∃ T : ByteArray, ⟨(Lib.decDigits tn.toNat).toArray⟩ = T := ⟨_, rfl⟩
 have HDT := Lib.hid (show ∀ W0, Calls Tryz.prog 71 #[.int .u64 tn] W0 fun e w' => e = .returned (.string Td) ∧ Later W0 w' from fun W0 => by
  have h := refDec_is tn.toNat (by omega) W0
  rw [Int.toNat_of_nonneg htb.1, hTd] at h
  exact h)
 unfold reqV
 rw [hA]
 have hob := (okH_iff _ _ _).1 ho
 obtain ⟨S, hS⟩ : ∃ S : ByteArray, ⟨(showH ht.toNat hg.toNat hrr).toArray⟩ = S := ⟨_, rfl⟩
 have HSH := Lib.hid (show ∀ W0, Calls Tryz.prog 117 #[.agg #[.int .i64 ht, .int .u32 hg, .int .u8 hrr]] W0 fun e w' => e = .returned (.tuple #[.string S, .int .i64 0]) ∧ Later W0 w' from fun W0 => by
  have h := refShow_yes ht.toNat hg.toNat hrr W0 (by rw [Int.toNat_of_nonneg (by omega), Int.toNat_of_nonneg (by omega)]; exact ho) (by omega)
  rw [Int.toNat_of_nonneg (by omega), Int.toNat_of_nonneg (by omega), hS] at h
  exact h)
 obtain ⟨B, hB⟩ : ∃ B, w.heap.size = B := ⟨_, rfl⟩
 have hk0 : (w.alloc (.cells #[.int .i64 1, .int .i64 ht, .int .u32 hg, .int .u8 hrr, .string K, .string Vb, .string O, .int .i64 lim, .int .i64 ten, .int .u64 qk, .int .u64 qb, .int .u8 rts] 39)).heap[w.heap.size]? = some (.cells #[.int .i64 1, .int .i64 ht, .int .u32 hg, .int .u8 hrr, .string K, .string Vb, .string O, .int .i64 lim, .int .i64 ten, .int .u64 qk, .int .u64 qb, .int .u8 rts] 39 (0, 0)) := (MapKept.heap_alloc w _).1
 have HK0 := Lib.hid hk0
 have HBB := Lib.hid hB
 have HO := Lib.hid (And.intro ho (And.intro hS hob))
 clear ho hS hob
 have HKK := Lib.hid (And.intro hks (And.intro hvs (And.intro hos (And.intro hkd (And.intro hvd hod)))))
 have HF8 := Lib.hid f8
 clear hk0 hB htb hks hvs hos hkd hvd hod hK hVb hO hA f1 f2 f3 f4 f5 f6 f8 f9
 go_enter Tryz.func63, Tryz.ntmps63
 go_wp2_with fail
 refine (HSH.out _).mono ?_
 rintro y1 w1 ⟨rfl, hl1⟩
 have hk1 := (hl1.block _ (Array.getElem?_eq_some_iff.1 HK0.out).1).trans HK0.out
 have HL1 := Lib.hid (((Later.refl w).alloc _).trans hl1)
 have HK1 := Lib.hid hk1
 obtain ⟨e0, e1, e2, e3, e4, e5, e6, e7, e8, e9, e10, e11⟩ := HC.out w1 w.heap.size hk1
 clear hl1 hk1
 go_wp2_with fail
 refine (HDT.out _).mono ?_
 rintro y2 w2 ⟨rfl, hl2⟩
 obtain ⟨V2, hV2⟩ : ∃ V, w2.alloc (.cells #[.string Td] 9) = V := ⟨_, rfl⟩
 have hl3 : Later w1 V2 := by rw [← hV2]; exact hl2.alloc _
 have hk2 := (hl3.block _ (Array.getElem?_eq_some_iff.1 HK1.out).1).trans HK1.out
 have hz : V2.heap[w2.heap.size]? = some (.cells #[.string Td] 9 (0, 0)) := by rw [← hV2]; exact (MapKept.heap_alloc w2 _).1
 have HV2 := Lib.hid hV2
 have HW12 := Lib.hid hl2
 have HZ := Lib.hid hz
 have HK2 := Lib.hid hk2
 have HL3 := Lib.hid (HL1.out.trans hl3)
 clear hl2 hl3 hz hV2 e0 e1 e2 e3 e4 e5 e6 e7 e8 e9 e10 e11
 obtain ⟨e0, e1, e2, e3, e4, e5, e6, e7, e8, e9, e10, e11⟩ := HC.out V2 w.heap.size hk2
 clear hk2
 go_upto_region 3 with fail
 rw [HV2.out]
 obtain ⟨WK, hWK⟩ : ∃ T : ByteArray, ⟨(word key).toArray⟩ = T := ⟨_, rfl⟩
 have HWK := Lib.hid (show ∀ W0, Calls Tryz.prog 13 #[.string K] W0 fun e w' => e = .returned (.string WK) ∧ Later W0 w' from fun W0 => by
  have h := refWord_is K (by have := HKK.out.1; have := HF8.out; omega) W0
  rw [HKK.out.2.2.2.1, hWK] at h
  exact h)
 have EWK := Lib.hid hWK
 clear hWK
 go_wp2_with fail
 refine (HWK.out _).mono ?_
 rintro y3 w3 ⟨rfl, hl4⟩
 have HL4 := Lib.hid (HL3.out.trans hl4)
 clear hl4 e0 e1 e2 e3 e4 e5 e6 e7 e8 e9 e10 e11
 go_wp2_with fail
 go_ret2
 exact ⟨HL4.out.alloc _, _, _, rfl, .inl ⟨rfl, by intro h; simp at h, 1, [showH ht.toNat hg.toNat hrr, word key], rfl, by simp [fldsN, shFs, shF, HO.out.1], SL.new w3 _ 2 rfl _ (by rw [← EWK.out, ← HO.out.2.1]; rfl)⟩⟩
set_option maxRecDepth 100000 in
set_option maxHeartbeats 8000000 in
theorem refWords_A2 (r : Req) (hr : r.fit) (hd : r.deed = 2) (ho : okH r.ht r.hg r.hr = true) (w : World) : Calls Tryz.prog 63 #[reqV r] w (WEnd r w) := by
 obtain ⟨d, ht, hg, hrr, key, val, old, lim, ten, qk, qb, rts⟩ := r
 have f1 := hr.hr
 have f2 := hr.rts
 have f3 := hr.ten
 have f4 := hr.hg
 have f5 := hr.qk
 have f6 := hr.qb
 have f7 := hr.lim
 have f8 := hr.len
 have f9 := hr.deed
 dsimp only at f1 f2 f3 f4 f5 f6 f7 f8 f9 hd ho ⊢
 subst hd
 obtain ⟨K, hK⟩ : ∃ K : ByteArray, ⟨key.toArray⟩ = K := ⟨_, rfl⟩
 obtain ⟨Vb, hVb⟩ : ∃ V : ByteArray, ⟨val.toArray⟩ = V := ⟨_, rfl⟩
 obtain ⟨O, hO⟩ : ∃ O : ByteArray, ⟨old.toArray⟩ = O := ⟨_, rfl⟩
 have hA : reqA ⟨2, ht, hg, hrr, key, val, old, lim, ten, qk, qb, rts⟩ = #[.int .i64 2, .int .i64 ht, .int .u32 hg, .int .u8 hrr, .string K, .string Vb, .string O, .int .i64 lim, .int .i64 ten, .int .u64 qk, .int .u64 qb, .int .u8 rts] := by rw [← hK, ← hVb, ← hO]; rfl
 have hks : K.size = key.length := by rw [← hK, size_mk]
 have hvs : Vb.size = val.length := by rw [← hVb, size_mk]
 have hos : O.size = old.length := by rw [← hO, size_mk]
 have hkd : K.data.toList = key := by rw [← hK]
 have hvd : Vb.data.toList = val := by rw [← hVb]
 have hod : O.data.toList = old := by rw [← hO]
 have HC := Lib.hid (show ∀ (U : World) (b : Nat), U.heap[b]? = some (.cells #[.int .i64 2, .int .i64 ht, .int .u32 hg, .int .u8 hrr, .string K, .string Vb, .string O, .int .i64 lim, .int .i64 ten, .int .u64 qk, .int .u64 qb, .int .u8 rts] 39 (0, 0)) → U.cell? ⟨b, 0, none⟩ = some (.int .i64 2) ∧ U.cell? ⟨b, 1, none⟩ = some (.int .i64 ht) ∧ U.cell? ⟨b, 2, none⟩ = some (.int .u32 hg) ∧ U.cell? ⟨b, 3, none⟩ = some (.int .u8 hrr) ∧ U.cell? ⟨b, 4, none⟩ = some (.string K) ∧ U.cell? ⟨b, 5, none⟩ = some (.string Vb) ∧ U.cell? ⟨b, 6, none⟩ = some (.string O) ∧ U.cell? ⟨b, 7, none⟩ = some (.int .i64 lim) ∧ U.cell? ⟨b, 8, none⟩ = some (.int .i64 ten) ∧ U.cell? ⟨b, 9, none⟩ = some (.int .u64 qk) ∧ U.cell? ⟨b, 10, none⟩ = some (.int .u64 qb) ∧ U.cell? ⟨b, 11, none⟩ = some (.int .u8 rts) from fun U b h => by
  refine ⟨?_, ?_, ?_, ?_, ?_, ?_, ?_, ?_, ?_, ?_, ?_, ?_⟩ <;> (rw [Lib.cell_of_heap h]; rfl))
 obtain ⟨tn, htn⟩ : ∃ tn : Int, IntKind.u64.wrap ten = tn := ⟨_, rfl⟩
 have htb : 0 ≤ tn ∧ tn ≤ 18446744073709551615 := by rw [← htn, IntKind.wrap_u64]; omega
 obtain ⟨Td, hTd⟩ : ∃ T : ByteArray, ⟨(Lib.decDigits tn.toNat).toArray⟩ = T := ⟨_, rfl⟩
 have HDT := Lib.hid (show ∀ W0, Calls Tryz.prog 71 #[.int .u64 tn] W0 fun e w' => e = .returned (.string Td) ∧ Later W0 w' from fun W0 => by
  have h := refDec_is tn.toNat (by omega) W0
  rw [Int.toNat_of_nonneg htb.1, hTd] at h
  exact h)
 unfold reqV
 rw [hA]
 have hob := (okH_iff _ _ _).1 ho
 obtain ⟨S, hS⟩ : ∃ S : ByteArray, ⟨(showH ht.toNat hg.toNat hrr).toArray⟩ = S := ⟨_, rfl⟩
 have HSH := Lib.hid (show ∀ W0, Calls Tryz.prog 117 #[.agg #[.int .i64 ht, .int .u32 hg, .int .u8 hrr]] W0 fun e w' => e = .returned (.tuple #[.string S, .int .i64 0]) ∧ Later W0 w' from fun W0 => by
  have h := refShow_yes ht.toNat hg.toNat hrr W0 (by rw [Int.toNat_of_nonneg (by omega), Int.toNat_of_nonneg (by omega)]; exact ho) (by omega)
  rw [Int.toNat_of_nonneg (by omega), Int.toNat_of_nonneg (by omega), hS] at h
  exact h)
 obtain ⟨B, hB⟩ : ∃ B, w.heap.size = B := ⟨_, rfl⟩
 have hk0 : (w.alloc (.cells #[.int .i64 2, .int .i64 ht, .int .u32 hg, .int .u8 hrr, .string K, .string Vb, .string O, .int .i64 lim, .int .i64 ten, .int .u64 qk, .int .u64 qb, .int .u8 rts] 39)).heap[w.heap.size]? = some (.cells #[.int .i64 2, .int .i64 ht, .int .u32 hg, .int .u8 hrr, .string K, .string Vb, .string O, .int .i64 lim, .int .i64 ten, .int .u64 qk, .int .u64 qb, .int .u8 rts] 39 (0, 0)) := (MapKept.heap_alloc w _).1
 have HK0 := Lib.hid hk0
 have HBB := Lib.hid hB
 have HO := Lib.hid (And.intro ho (And.intro hS hob))
 clear ho hS hob
 have HKK := Lib.hid (And.intro hks (And.intro hvs (And.intro hos (And.intro hkd (And.intro hvd hod)))))
 have HF8 := Lib.hid f8
 clear hk0 hB htb hks hvs hos hkd hvd hod hK hVb hO hA f1 f2 f3 f4 f5 f6 f8 f9
 go_enter Tryz.func63, Tryz.ntmps63
 go_wp2_with fail
 refine (HSH.out _).mono ?_
 rintro y1 w1 ⟨rfl, hl1⟩
 have hk1 := (hl1.block _ (Array.getElem?_eq_some_iff.1 HK0.out).1).trans HK0.out
 have HL1 := Lib.hid (((Later.refl w).alloc _).trans hl1)
 have HK1 := Lib.hid hk1
 obtain ⟨e0, e1, e2, e3, e4, e5, e6, e7, e8, e9, e10, e11⟩ := HC.out w1 w.heap.size hk1
 clear hl1 hk1
 go_wp2_with fail
 refine (HDT.out _).mono ?_
 rintro y2 w2 ⟨rfl, hl2⟩
 obtain ⟨V2, hV2⟩ : ∃ V, w2.alloc (.cells #[.string Td] 9) = V := ⟨_, rfl⟩
 have hl3 : Later w1 V2 := by rw [← hV2]; exact hl2.alloc _
 have hk2 := (hl3.block _ (Array.getElem?_eq_some_iff.1 HK1.out).1).trans HK1.out
 have hz : V2.heap[w2.heap.size]? = some (.cells #[.string Td] 9 (0, 0)) := by rw [← hV2]; exact (MapKept.heap_alloc w2 _).1
 have HV2 := Lib.hid hV2
 have HW12 := Lib.hid hl2
 have HZ := Lib.hid hz
 have HK2 := Lib.hid hk2
 have HL3 := Lib.hid (HL1.out.trans hl3)
 clear hl2 hl3 hz hV2 e0 e1 e2 e3 e4 e5 e6 e7 e8 e9 e10 e11
 obtain ⟨e0, e1, e2, e3, e4, e5, e6, e7, e8, e9, e10, e11⟩ := HC.out V2 w.heap.size hk2
 clear hk2
 go_upto_region 3 with fail
 rw [HV2.out]
 obtain ⟨WK, hWK⟩ : ∃ T : ByteArray, ⟨(word key).toArray⟩ = T := ⟨_, rfl⟩
 have HWK := Lib.hid (show ∀ W0, Calls Tryz.prog 13 #[.string K] W0 fun e w' => e = .returned (.string WK) ∧ Later W0 w' from fun W0 => by
  have h := refWord_is K (by have := HKK.out.1; have := HF8.out; omega) W0
  rw [HKK.out.2.2.2.1, hWK] at h
  exact h)
 have EWK := Lib.hid hWK
 clear hWK
 obtain ⟨WV, hWV⟩ : ∃ T : ByteArray, ⟨(word val).toArray⟩ = T := ⟨_, rfl⟩
 have HWV := Lib.hid (show ∀ W0, Calls Tryz.prog 13 #[.string Vb] W0 fun e w' => e = .returned (.string WV) ∧ Later W0 w' from fun W0 => by
  have h := refWord_is Vb (by have := HKK.out.2.1; have := HF8.out; omega) W0
  rw [HKK.out.2.2.2.2.1, hWV] at h
  exact h)
 have EWV := Lib.hid hWV
 clear hWV
 have HW2 := Lib.hid e4
 have HW3 := Lib.hid e5
 have HW4 := Lib.hid e6
 go_wp2_with fail
 clear e0 e1 e2 e3 e4 e5 e6 e7 e8 e9 e10 e11
 refine wp_region_iv mixedW (fun D' a' W' => ∃ x0 x1 x2 x3 x4 x5 x6 x7 y2 y3, a' = ⟨#[Value.agg #[Value.int IntKind.i64 2, Value.int IntKind.i64 ht, Value.int IntKind.u32 hg, Value.int IntKind.u8 hrr, Value.string K, Value.string Vb, Value.string O, Value.int IntKind.i64 lim, Value.int IntKind.i64 ten, Value.int IntKind.u64 qk, Value.int IntKind.u64 qb, Value.int IntKind.u8 rts], Value.pointer (some { block := w.heap.size, off := 0 }), y2, y3, Value.string S, Value.int IntKind.i64 0, Value.slice (some { block := w2.heap.size, off := 0 }) 1 1, undef, undef, Value.tuple #[Value.string S, Value.int IntKind.i64 0], Value.pointer (some { block := w.heap.size, off := 1 }), Value.agg #[Value.int IntKind.i64 ht, Value.int IntKind.u32 hg, Value.int IntKind.u8 hrr], Value.tuple #[Value.string S, Value.int IntKind.i64 0], Value.string S, Value.int IntKind.i64 0, Value.pointer (some { block := w.heap.size, off := 8 }), Value.int IntKind.i64 ten, Value.int IntKind.u64 tn, Value.string Td, Value.slice (some { block := w2.heap.size, off := 0 }) 1 1, Value.pointer (some { block := w.heap.size, off := 0 }), Value.int IntKind.i64 2, Value.bool true, Value.bool true, Value.pointer (some { block := w.heap.size, off := 0 }), Value.int IntKind.i64 2, Value.bool true, Value.bool true, Value.bool true, Value.int IntKind.i64 0, Value.bool false, Value.bool false, Value.bool false, Value.pointer (some { block := w.heap.size, off := 0 }), Value.int IntKind.i64 2, Value.bool false, Value.bool false, undef, undef, undef, undef, undef, undef, undef, undef, Value.bool false, Value.bool false, Value.pointer (some { block := w.heap.size, off := 0 }), Value.int IntKind.i64 2, Value.bool false, Value.bool false, Value.bool false, undef, undef, undef, undef, undef, Value.bool true, Value.bool true, x0, x1, x2, x3, x4, x5, x6, x7, undef, undef, undef, undef, undef, undef, undef, undef, undef, undef, undef, undef, undef, undef, undef, undef, undef, undef, undef, undef, undef, undef, undef, undef, undef, undef, undef, undef, undef, undef, undef, undef, undef, undef, undef, undef, undef, undef, undef, undef, undef, undef, undef, undef, undef, undef, undef, undef, undef, undef, undef, undef, undef, undef, undef, undef, undef, undef, undef, undef, undef, undef, undef, undef, undef, undef], []⟩ ∧ (Later V2 W') ∧ (D' 7 = true → ∃ Z, x7 = .slice (some ⟨Z, 0, none⟩) 3 3 ∧ W'.heap[Z]? = some (.cells #[.string S, .string WK, .string WV] 9 (0, 0))) ∧ (D' 0 = true → x0 = .string S) ∧ (D' 1 = true → x1 = .pointer (some ⟨w.heap.size, 4, none⟩)) ∧ (D' 2 = true → x2 = .string K) ∧ (D' 3 = true → x3 = .string WK) ∧ (D' 4 = true → x4 = .pointer (some ⟨w.heap.size, 5, none⟩)) ∧ (D' 5 = true → x5 = .string Vb) ∧ (D' 6 = true → x6 = .string WV) ∧ (D' 8 = true → y2 = x7) ∧ (D' 9 = true → y3 = .bool true)) (by kernel_rfl) ?_ ?_ ?_
 ·exact ⟨_, _, _, _, _, _, _, _, _, _, rfl, (Later.refl V2).drew, (fun h => by cases h), (fun h => by cases h), (fun h => by cases h), (fun h => by cases h), (fun h => by cases h), (fun h => by cases h), (fun h => by cases h), (fun h => by cases h), (fun h => by cases h), (fun h => by cases h)⟩
 ·intro i D' a' W' hi hDi hdep hcl hI
  obtain ⟨x0, x1, x2, x3, x4, x5, x6, x7, y2, y3, rfl, gL, gB, f0, f1, f2, f3, f4, f5, f6, f8, f9⟩ := hI
  have hi' : i = 0 ∨ i = 1 ∨ i = 2 ∨ i = 3 ∨ i = 4 ∨ i = 5 ∨ i = 6 ∨ i = 7 ∨ i = 8 ∨ i = 9 := by
   have : i < 10 := hi
   omega
  rcases hi' with rfl | rfl | rfl | rfl | rfl | rfl | rfl | rfl | rfl | rfl
  ·skip
   refine wpOp_step rfl (fun K' hK' => ?_)
   rw [if_pos (by rfl)]
   go_simp
   exact hK' _ _ ⟨_, x1, x2, x3, x4, x5, x6, x7, y2, y3, rfl, gL, gB, (fun _ => rfl), f1, f2, f3, f4, f5, f6, f8, f9⟩
  ·skip
   refine wpOp_step rfl (fun K' hK' => ?_)
   rw [if_pos (by rfl)]
   go_simp
   exact hK' _ _ ⟨x0, _, x2, x3, x4, x5, x6, x7, y2, y3, rfl, gL, gB, f0, (fun _ => rfl), f2, f3, f4, f5, f6, f8, f9⟩
  ·have q1 := f1 (hdep 1 (by kernel_rfl))
   subst q1
   have hc := cell_at gL HW2.out (cell_lt HW2.out)
   refine wpOp_step rfl (fun K' hK' => ?_)
   rw [if_pos (by rfl)]
   go_simp
   exact hK' _ _ ⟨x0, _, _, x3, x4, x5, x6, x7, y2, y3, rfl, gL, gB, f0, (fun _ => rfl), (fun _ => rfl), f3, f4, f5, f6, f8, f9⟩
  ·have q2 := f2 (hdep 2 (by kernel_rfl))
   subst q2
   refine wpOp_step rfl (fun K' hK' => ?_)
   rw [if_pos (by rfl)]
   go_simp
   refine (HWK.out W').mono ?_
   rintro y8 w8 ⟨rfl, hl1⟩
   exact hK' _ _ ⟨x0, x1, _, _, x4, x5, x6, x7, y2, y3, rfl, (gL.trans hl1), (fun h => by obtain ⟨Z, h1, h2⟩ := gB h; exact ⟨Z, h1, (hl1.block Z (Array.getElem?_eq_some_iff.1 h2).1).trans h2⟩), f0, f1, (fun _ => rfl), (fun _ => rfl), f4, f5, f6, f8, f9⟩
  ·skip
   refine wpOp_step rfl (fun K' hK' => ?_)
   rw [if_pos (by rfl)]
   go_simp
   exact hK' _ _ ⟨x0, x1, x2, x3, _, x5, x6, x7, y2, y3, rfl, gL, gB, f0, f1, f2, f3, (fun _ => rfl), f5, f6, f8, f9⟩
  ·have q4 := f4 (hdep 4 (by kernel_rfl))
   subst q4
   have hc := cell_at gL HW3.out (cell_lt HW3.out)
   refine wpOp_step rfl (fun K' hK' => ?_)
   rw [if_pos (by rfl)]
   go_simp
   exact hK' _ _ ⟨x0, x1, x2, x3, _, _, x6, x7, y2, y3, rfl, gL, gB, f0, f1, f2, f3, (fun _ => rfl), (fun _ => rfl), f6, f8, f9⟩
  ·have q5 := f5 (hdep 5 (by kernel_rfl))
   subst q5
   refine wpOp_step rfl (fun K' hK' => ?_)
   rw [if_pos (by rfl)]
   go_simp
   refine (HWV.out W').mono ?_
   rintro y8 w8 ⟨rfl, hl1⟩
   exact hK' _ _ ⟨x0, x1, x2, x3, x4, _, _, x7, y2, y3, rfl, (gL.trans hl1), (fun h => by obtain ⟨Z, h1, h2⟩ := gB h; exact ⟨Z, h1, (hl1.block Z (Array.getElem?_eq_some_iff.1 h2).1).trans h2⟩), f0, f1, f2, f3, f4, (fun _ => rfl), (fun _ => rfl), f8, f9⟩
  ·have q0 := f0 (hdep 0 (by kernel_rfl))
   have q3 := f3 (hdep 3 (by kernel_rfl))
   have q6 := f6 (hdep 6 (by kernel_rfl))
   subst q0
   subst q3
   subst q6
   have hn8 := hcl.no hDi (k := 8) (by decide) (by kernel_rfl)
   refine wpOp_step rfl (fun K' hK' => ?_)
   rw [if_pos (by rfl)]
   go_simp
   exact hK' _ _ ⟨_, x1, x2, _, x4, x5, _, _, y2, y3, rfl, (gL.alloc _), (fun _ => ⟨W'.heap.size, rfl, (MapKept.heap_alloc W' _).1⟩), (fun _ => rfl), f1, f2, (fun _ => rfl), f4, f5, (fun _ => rfl), (fun h => absurd (show D' 8 = true from h) (by rw [hn8]; decide)), f9⟩
  ·skip
   refine wpOp_step rfl (fun K' hK' => ?_)
   rw [if_pos (by rfl)]
   go_simp
   exact hK' _ _ ⟨x0, x1, x2, x3, x4, x5, x6, x7, _, y3, rfl, gL, gB, f0, f1, f2, f3, f4, f5, f6, (fun _ => rfl), f9⟩
  ·skip
   refine wpOp_step rfl (fun K' hK' => ?_)
   rw [if_pos (by rfl)]
   go_simp
   exact hK' _ _ ⟨x0, x1, x2, x3, x4, x5, x6, x7, y2, _, rfl, gL, gB, f0, f1, f2, f3, f4, f5, f6, f8, (fun _ => rfl)⟩
 ·rintro D' a' W' hD' ⟨x0, x1, x2, x3, x4, x5, x6, x7, y2, y3, rfl, gL, gB, f0, f1, f2, f3, f4, f5, f6, f8, f9⟩
  obtain ⟨Z, qZ, hZ⟩ := gB (hD' 7 (by decide))
  have q2 := f8 (hD' 8 (by decide))
  have q3 := f9 (hD' 9 (by decide))
  subst qZ
  subst q2
  subst q3
  have HLF := Lib.hid (HL3.out.trans gL)
  have HZF := Lib.hid hZ
  clear gL gB hZ f0 f1 f2 f3 f4 f5 f6 f8 f9
  go_wp2_with fail
  go_ret2
  exact ⟨HLF.out, _, _, rfl, .inl ⟨rfl, by intro h; simp at h, 2, [showH ht.toNat hg.toNat hrr, word key, word val], rfl, by simp [fldsN, shFs, shF, HO.out.1], _, _, rfl, .inr ⟨Z, 0, rfl, fun j hj => by
   rw [Nat.zero_add, Lib.cell_of_heap HZF.out]
   have hj2 : j = 0 ∨ j = 1 ∨ j = 2 := by simp at hj; omega
   rcases hj2 with rfl | rfl | rfl
   ·rw [← HO.out.2.1]; rfl
   ·rw [← EWK.out]; rfl
   ·rw [← EWV.out]; rfl⟩⟩⟩
set_option maxRecDepth 100000 in
set_option maxHeartbeats 8000000 in
theorem refWords_A3 (r : Req) (hr : r.fit) (hd : r.deed = 3) (ho : okH r.ht r.hg r.hr = true) (w : World) : Calls Tryz.prog 63 #[reqV r] w (WEnd r w) := by
 obtain ⟨d, ht, hg, hrr, key, val, old, lim, ten, qk, qb, rts⟩ := r
 have f1 := hr.hr
 have f2 := hr.rts
 have f3 := hr.ten
 have f4 := hr.hg
 have f5 := hr.qk
 have f6 := hr.qb
 have f7 := hr.lim
 have f8 := hr.len
 have f9 := hr.deed
 dsimp only at f1 f2 f3 f4 f5 f6 f7 f8 f9 hd ho ⊢
 subst hd
 obtain ⟨K, hK⟩ : ∃ K : ByteArray, ⟨key.toArray⟩ = K := ⟨_, rfl⟩
 obtain ⟨Vb, hVb⟩ : ∃ V : ByteArray, ⟨val.toArray⟩ = V := ⟨_, rfl⟩
 obtain ⟨O, hO⟩ : ∃ O : ByteArray, ⟨old.toArray⟩ = O := ⟨_, rfl⟩
 have hA : reqA ⟨3, ht, hg, hrr, key, val, old, lim, ten, qk, qb, rts⟩ = #[.int .i64 3, .int .i64 ht, .int .u32 hg, .int .u8 hrr, .string K, .string Vb, .string O, .int .i64 lim, .int .i64 ten, .int .u64 qk, .int .u64 qb, .int .u8 rts] := by rw [← hK, ← hVb, ← hO]; rfl
 have hks : K.size = key.length := by rw [← hK, size_mk]
 have hvs : Vb.size = val.length := by rw [← hVb, size_mk]
 have hos : O.size = old.length := by rw [← hO, size_mk]
 have hkd : K.data.toList = key := by rw [← hK]
 have hvd : Vb.data.toList = val := by rw [← hVb]
 have hod : O.data.toList = old := by rw [← hO]
 have HC := Lib.hid (show ∀ (U : World) (b : Nat), U.heap[b]? = some (.cells #[.int .i64 3, .int .i64 ht, .int .u32 hg, .int .u8 hrr, .string K, .string Vb, .string O, .int .i64 lim, .int .i64 ten, .int .u64 qk, .int .u64 qb, .int .u8 rts] 39 (0, 0)) → U.cell? ⟨b, 0, none⟩ = some (.int .i64 3) ∧ U.cell? ⟨b, 1, none⟩ = some (.int .i64 ht) ∧ U.cell? ⟨b, 2, none⟩ = some (.int .u32 hg) ∧ U.cell? ⟨b, 3, none⟩ = some (.int .u8 hrr) ∧ U.cell? ⟨b, 4, none⟩ = some (.string K) ∧ U.cell? ⟨b, 5, none⟩ = some (.string Vb) ∧ U.cell? ⟨b, 6, none⟩ = some (.string O) ∧ U.cell? ⟨b, 7, none⟩ = some (.int .i64 lim) ∧ U.cell? ⟨b, 8, none⟩ = some (.int .i64 ten) ∧ U.cell? ⟨b, 9, none⟩ = some (.int .u64 qk) ∧ U.cell? ⟨b, 10, none⟩ = some (.int .u64 qb) ∧ U.cell? ⟨b, 11, none⟩ = some (.int .u8 rts) from fun U b h => by
  refine ⟨?_, ?_, ?_, ?_, ?_, ?_, ?_, ?_, ?_, ?_, ?_, ?_⟩ <;> (rw [Lib.cell_of_heap h]; rfl))
 obtain ⟨tn, htn⟩ : ∃ tn : Int, IntKind.u64.wrap ten = tn := ⟨_, rfl⟩
 have htb : 0 ≤ tn ∧ tn ≤ 18446744073709551615 := by rw [← htn, IntKind.wrap_u64]; omega
 obtain ⟨Td, hTd⟩ : ∃ T : ByteArray, ⟨(Lib.decDigits tn.toNat).toArray⟩ = T := ⟨_, rfl⟩
 have HDT := Lib.hid (show ∀ W0, Calls Tryz.prog 71 #[.int .u64 tn] W0 fun e w' => e = .returned (.string Td) ∧ Later W0 w' from fun W0 => by
  have h := refDec_is tn.toNat (by omega) W0
  rw [Int.toNat_of_nonneg htb.1, hTd] at h
  exact h)
 unfold reqV
 rw [hA]
 have hob := (okH_iff _ _ _).1 ho
 obtain ⟨S, hS⟩ : ∃ S : ByteArray, ⟨(showH ht.toNat hg.toNat hrr).toArray⟩ = S := ⟨_, rfl⟩
 have HSH := Lib.hid (show ∀ W0, Calls Tryz.prog 117 #[.agg #[.int .i64 ht, .int .u32 hg, .int .u8 hrr]] W0 fun e w' => e = .returned (.tuple #[.string S, .int .i64 0]) ∧ Later W0 w' from fun W0 => by
  have h := refShow_yes ht.toNat hg.toNat hrr W0 (by rw [Int.toNat_of_nonneg (by omega), Int.toNat_of_nonneg (by omega)]; exact ho) (by omega)
  rw [Int.toNat_of_nonneg (by omega), Int.toNat_of_nonneg (by omega), hS] at h
  exact h)
 obtain ⟨B, hB⟩ : ∃ B, w.heap.size = B := ⟨_, rfl⟩
 have hk0 : (w.alloc (.cells #[.int .i64 3, .int .i64 ht, .int .u32 hg, .int .u8 hrr, .string K, .string Vb, .string O, .int .i64 lim, .int .i64 ten, .int .u64 qk, .int .u64 qb, .int .u8 rts] 39)).heap[w.heap.size]? = some (.cells #[.int .i64 3, .int .i64 ht, .int .u32 hg, .int .u8 hrr, .string K, .string Vb, .string O, .int .i64 lim, .int .i64 ten, .int .u64 qk, .int .u64 qb, .int .u8 rts] 39 (0, 0)) := (MapKept.heap_alloc w _).1
 have HK0 := Lib.hid hk0
 have HBB := Lib.hid hB
 have HO := Lib.hid (And.intro ho (And.intro hS hob))
 clear ho hS hob
 have HKK := Lib.hid (And.intro hks (And.intro hvs (And.intro hos (And.intro hkd (And.intro hvd hod)))))
 have HF8 := Lib.hid f8
 clear hk0 hB htb hks hvs hos hkd hvd hod hK hVb hO hA f1 f2 f3 f4 f5 f6 f8 f9
 go_enter Tryz.func63, Tryz.ntmps63
 go_wp2_with fail
 refine (HSH.out _).mono ?_
 rintro y1 w1 ⟨rfl, hl1⟩
 have hk1 := (hl1.block _ (Array.getElem?_eq_some_iff.1 HK0.out).1).trans HK0.out
 have HL1 := Lib.hid (((Later.refl w).alloc _).trans hl1)
 have HK1 := Lib.hid hk1
 obtain ⟨e0, e1, e2, e3, e4, e5, e6, e7, e8, e9, e10, e11⟩ := HC.out w1 w.heap.size hk1
 clear hl1 hk1
 go_wp2_with fail
 refine (HDT.out _).mono ?_
 rintro y2 w2 ⟨rfl, hl2⟩
 obtain ⟨V2, hV2⟩ : ∃ V, w2.alloc (.cells #[.string Td] 9) = V := ⟨_, rfl⟩
 have hl3 : Later w1 V2 := by rw [← hV2]; exact hl2.alloc _
 have hk2 := (hl3.block _ (Array.getElem?_eq_some_iff.1 HK1.out).1).trans HK1.out
 have hz : V2.heap[w2.heap.size]? = some (.cells #[.string Td] 9 (0, 0)) := by rw [← hV2]; exact (MapKept.heap_alloc w2 _).1
 have HV2 := Lib.hid hV2
 have HW12 := Lib.hid hl2
 have HZ := Lib.hid hz
 have HK2 := Lib.hid hk2
 have HL3 := Lib.hid (HL1.out.trans hl3)
 clear hl2 hl3 hz hV2 e0 e1 e2 e3 e4 e5 e6 e7 e8 e9 e10 e11
 obtain ⟨e0, e1, e2, e3, e4, e5, e6, e7, e8, e9, e10, e11⟩ := HC.out V2 w.heap.size hk2
 clear hk2
 go_upto_region 3 with fail
 rw [HV2.out]
 obtain ⟨WK, hWK⟩ : ∃ T : ByteArray, ⟨(word key).toArray⟩ = T := ⟨_, rfl⟩
 have HWK := Lib.hid (show ∀ W0, Calls Tryz.prog 13 #[.string K] W0 fun e w' => e = .returned (.string WK) ∧ Later W0 w' from fun W0 => by
  have h := refWord_is K (by have := HKK.out.1; have := HF8.out; omega) W0
  rw [HKK.out.2.2.2.1, hWK] at h
  exact h)
 have EWK := Lib.hid hWK
 clear hWK
 go_wp2_with fail
 refine (HWK.out _).mono ?_
 rintro y3 w3 ⟨rfl, hl4⟩
 have HL4 := Lib.hid (HL3.out.trans hl4)
 clear hl4 e0 e1 e2 e3 e4 e5 e6 e7 e8 e9 e10 e11
 go_wp2_with fail
 go_ret2
 exact ⟨HL4.out.alloc _, _, _, rfl, .inl ⟨rfl, by intro h; simp at h, 3, [showH ht.toNat hg.toNat hrr, word key], rfl, by simp [fldsN, shFs, shF, HO.out.1], SL.new w3 _ 2 rfl _ (by rw [← EWK.out, ← HO.out.2.1]; rfl)⟩⟩
end Go.Proofs.YtkbedajbbakihaaGreatDoor
