/-
  The law HandleBack, walked. Conditions: the numbers are within their types; the listed variables read as laid.
-/
import Derived.Test.YtpfnccjfmbecfaaDoorN
namespace Go.Proofs.YtpfnccjfmbecfaaDoor
open Go.RowKit Go.Sort Go.Lib

theorem showH_len (t g : Nat) (r : Int) (ht : t ≤ 16) (hg : g ≤ 4294967295) : (showH t g r).length ≤ 50 := by
  have l1 := digits_le t (by omega)
  have l2 := digits_le g (by omega)
  have l3 : (lettersR r).length ≤ 3 := by
    unfold lettersR
    simp only [List.length_append]
    split <;> split <;> split <;> simp
  simp only [showH, List.length_append, List.length_cons]
  omega
/-- a valid handle: its text, which is read back -/
theorem back_yes (t g r : Int) (g0 : 0 ≤ g) (g1 : g ≤ 4294967295) (ho : okH t g r = true) : ∃ T : ByteArray, T = ⟨(showH t.toNat g.toNat r).toArray⟩ ∧
    (∀ w, Laid w → Calls Tryd.prog 11 #[.agg #[.int .i64 t, .int .u32 g, .int .u8 r]] w fun e w' => e = .returned (.tuple #[.string T, .int .i64 0]) ∧ Later w w') ∧
    (∀ w, Laid w → Calls Tryd.prog 13 #[.string T] w fun e w' => e = .returned (.tuple #[.agg #[.int .i64 t, .int .u32 g, .int .u8 r], .int .i64 0]) ∧ Later w w') := by
  have h := (okH_iff _ _ _).1 ho
  obtain ⟨tn, rfl⟩ : ∃ n : Nat, t = n := ⟨t.toNat, by omega⟩
  obtain ⟨gn, rfl⟩ : ∃ n : Nat, g = n := ⟨g.toNat, by omega⟩
  refine ⟨_, rfl, fun w hw => Show_yes tn gn r w ho (by omega) hw.1, fun w hw => ?_⟩
  have hE : ReadEnd (showH tn gn r) tn gn r 0 := .inl ⟨tn, gn, rfl, rfl, ho, by omega, rfl, rfl⟩
  have hlen := showH_len tn gn r (by omega) (by omega)
  exact Read_is _ (by omega) _ _ _ _ hE w hw
/-- any text: refused, or the text of the handle that is read -/
theorem back_text (s : ByteArray) (hs : s.size ≤ 1000) :
    (∀ w, Laid w → Calls Tryd.prog 13 #[.string s] w fun e w' => e = .returned (.tuple #[.agg #[.int .i64 0, .int .u32 0, .int .u8 0], .int .i64 7]) ∧ Later w w') ∨
    ∃ t g r : Int, okH t g r = true ∧ (∀ w, Laid w → Calls Tryd.prog 13 #[.string s] w fun e w' => e = .returned (.tuple #[.agg #[.int .i64 t, .int .u32 g, .int .u8 r], .int .i64 0]) ∧ Later w w') ∧
      (∀ w, Laid w → Calls Tryd.prog 11 #[.agg #[.int .i64 t, .int .u32 g, .int .u8 r]] w fun e w' => e = .returned (.tuple #[.string s, .int .i64 0]) ∧ Later w w') := by
  obtain ⟨l, rfl⟩ : ∃ l : List UInt8, s = ⟨l.toArray⟩ := ⟨s.data.toList, by cases s; simp⟩
  rw [size_mk] at hs
  obtain ⟨x, y, z, k, hE⟩ := readEnd_any l
  have hR := fun w hw => Read_is l hs x y z k hE w hw
  rcases hE with ⟨t, g, rfl, rfl, ho, hg, hl, rfl⟩ | ⟨rfl, rfl, rfl, rfl, _⟩
  · refine .inr ⟨_, _, _, ho, hR, fun w hw => ?_⟩
    have := Show_yes t g z w ho hg hw.1
    rw [← hl] at this
    exact this
  · exact .inl hR
/-- different texts of different handles -/
theorem back_inj {t g r t' g' r' : Int} (g0 : 0 ≤ g) (g1 : g ≤ 4294967295) (s0 : 0 ≤ g') (s1 : g' ≤ 4294967295) (ho : okH t g r = true) (ho' : okH t' g' r' = true) {T S : ByteArray}
    (hT : T = ⟨(showH t.toNat g.toNat r).toArray⟩) (hS : S = ⟨(showH t'.toNat g'.toNat r').toArray⟩) (h : T = S) : t = t' ∧ g = g' ∧ r = r' := by
  have h1 := (okH_iff _ _ _).1 ho
  have h2 := (okH_iff _ _ _).1 ho'
  obtain ⟨tn, rfl⟩ : ∃ n : Nat, t = n := ⟨t.toNat, by omega⟩
  obtain ⟨gn, rfl⟩ : ∃ n : Nat, g = n := ⟨g.toNat, by omega⟩
  obtain ⟨tm, rfl⟩ : ∃ n : Nat, t' = n := ⟨t'.toNat, by omega⟩
  obtain ⟨gm, rfl⟩ : ∃ n : Nat, g' = n := ⟨g'.toNat, by omega⟩
  rw [hT, hS] at h
  have h3 : showH tn gn r = showH tm gm r' := by
    have := congrArg (fun b : ByteArray => b.data.toList) h
    simpa using this
  obtain ⟨e1, e2, e3⟩ := showH_inj ho ho' (by omega) (by omega) h3
  exact ⟨by rw [e1], by rw [e2], e3⟩


set_option maxRecDepth 100000 in
set_option maxHeartbeats 6400000 in
theorem HandleBack_noL (t g r t' g' r' : Int) (s : ByteArray) (n1 : 300 < s.size) (ho : okH t g r = false) (S : ByteArray) (k : Int) (hSb : ∀ w, Laid w → Calls Tryd.prog 11 #[.agg #[.int .i64 t', .int .u32 g', .int .u8 r']] w fun e w' => e = .returned (.tuple #[.string S, .int .i64 k]) ∧ Later w w') (w : World) (hw : Laid w) :
    Calls Tryd.prog 4 #[.agg #[.int .i64 t, .int .u32 g, .int .u8 r], .agg #[.int .i64 t', .int .u32 g', .int .u8 r'], .string s] w fun e w' => e = .returned (.bool true) ∧ Later w w' := by
  have HO := Lib.hid ho
  have HSB := Lib.hid hSb
  clear ho hSb
  go_enter Tryd.func4, Tryd.ntmps4
  go_wp2_with fail
  refine (awake_is _ (hw.later (((Later.refl w).alloc _).alloc _))).mono ?_
  rintro e w1 ⟨rfl, hb1⟩
  have k00 := cell_at hb1 (p := ⟨w.heap.size, 0, none⟩) (v := .int .i64 t) (by go_cell) (by simp <;> omega)
  have k01 := cell_at hb1 (p := ⟨w.heap.size, 1, none⟩) (v := .int .u32 g) (by go_cell) (by simp <;> omega)
  have k02 := cell_at hb1 (p := ⟨w.heap.size, 2, none⟩) (v := .int .u8 r) (by go_cell) (by simp <;> omega)
  have k10 := cell_at hb1 (p := ⟨w.heap.size + 1, 0, none⟩) (v := .int .i64 t') (by go_cell) (by simp <;> omega)
  have k11 := cell_at hb1 (p := ⟨w.heap.size + 1, 1, none⟩) (v := .int .u32 g') (by go_cell) (by simp <;> omega)
  have k12 := cell_at hb1 (p := ⟨w.heap.size + 1, 2, none⟩) (v := .int .u8 r') (by go_cell) (by simp <;> omega)
  have hl1 : Later w w1 := (((Later.refl w).alloc _).alloc _).trans hb1
  have hs1 : w.heap.size + 1 < w1.heap.size := Nat.lt_of_lt_of_le (by simp) hb1.size
  clear hb1
  go_wp2_with fail
  refine (Show_no t g r _ HO.out).mono ?_
  rintro e w2 ⟨rfl, hb2⟩
  have k00 := cell_at hb2 k00 (by simp <;> omega)
  have k01 := cell_at hb2 k01 (by simp <;> omega)
  have k02 := cell_at hb2 k02 (by simp <;> omega)
  have k10 := cell_at hb2 k10 (by simp <;> omega)
  have k11 := cell_at hb2 k11 (by simp <;> omega)
  have k12 := cell_at hb2 k12 (by simp <;> omega)
  have hl2 := hl1.trans hb2
  have hs2 := Nat.lt_of_lt_of_le hs1 hb2.size
  clear hb2 hl1 hs1
  go_wp2_with fail
  refine (HSB.out _ (hw.later hl2)).mono ?_
  rintro e w3 ⟨rfl, hb3⟩
  have k00 := cell_at hb3 k00 (by simp <;> omega)
  have k01 := cell_at hb3 k01 (by simp <;> omega)
  have k02 := cell_at hb3 k02 (by simp <;> omega)
  have k10 := cell_at hb3 k10 (by simp <;> omega)
  have k11 := cell_at hb3 k11 (by simp <;> omega)
  have k12 := cell_at hb3 k12 (by simp <;> omega)
  have hl3 := hl2.trans hb3
  have hs3 := Nat.lt_of_lt_of_le hs2 hb3.size
  clear hb3 hl2 hs2
  go_wp2_with fail
  refine (Right_is _ _ _ _ HO.out _).mono ?_
  rintro e w4 ⟨rfl, hb4⟩
  have hl4 := hl3.trans hb4
  clear hb4 hl3 hs3
  go_wp2_with fail
  go_ret
  exact ⟨rfl, hl4⟩

set_option maxRecDepth 100000 in
set_option maxHeartbeats 6400000 in
theorem HandleBack_badL (t g r t' g' r' : Int) (s : ByteArray) (n1 : 300 < s.size) (ho : okH t g r = true) (T : ByteArray) (hSa : ∀ w, Laid w → Calls Tryd.prog 11 #[.agg #[.int .i64 t, .int .u32 g, .int .u8 r]] w fun e w' => e = .returned (.tuple #[.string T, .int .i64 0]) ∧ Later w w') (hRa : ∀ w, Laid w → Calls Tryd.prog 13 #[.string T] w fun e w' => e = .returned (.tuple #[.agg #[.int .i64 t, .int .u32 g, .int .u8 r], .int .i64 0]) ∧ Later w w') (S : ByteArray) (hSb : ∀ w, Laid w → Calls Tryd.prog 11 #[.agg #[.int .i64 t', .int .u32 g', .int .u8 r']] w fun e w' => e = .returned (.tuple #[.string S, .int .i64 4]) ∧ Later w w') (w : World) (hw : Laid w) :
    Calls Tryd.prog 4 #[.agg #[.int .i64 t, .int .u32 g, .int .u8 r], .agg #[.int .i64 t', .int .u32 g', .int .u8 r'], .string s] w fun e w' => e = .returned (.bool true) ∧ Later w w' := by
  have HO := Lib.hid ho
  have HSA := Lib.hid hSa
  have HRA := Lib.hid hRa
  have HSB := Lib.hid hSb
  clear ho hSa hRa hSb
  go_enter Tryd.func4, Tryd.ntmps4
  go_wp2_with fail
  refine (awake_is _ (hw.later (((Later.refl w).alloc _).alloc _))).mono ?_
  rintro e w1 ⟨rfl, hb1⟩
  have k00 := cell_at hb1 (p := ⟨w.heap.size, 0, none⟩) (v := .int .i64 t) (by go_cell) (by simp <;> omega)
  have k01 := cell_at hb1 (p := ⟨w.heap.size, 1, none⟩) (v := .int .u32 g) (by go_cell) (by simp <;> omega)
  have k02 := cell_at hb1 (p := ⟨w.heap.size, 2, none⟩) (v := .int .u8 r) (by go_cell) (by simp <;> omega)
  have k10 := cell_at hb1 (p := ⟨w.heap.size + 1, 0, none⟩) (v := .int .i64 t') (by go_cell) (by simp <;> omega)
  have k11 := cell_at hb1 (p := ⟨w.heap.size + 1, 1, none⟩) (v := .int .u32 g') (by go_cell) (by simp <;> omega)
  have k12 := cell_at hb1 (p := ⟨w.heap.size + 1, 2, none⟩) (v := .int .u8 r') (by go_cell) (by simp <;> omega)
  have hl1 : Later w w1 := (((Later.refl w).alloc _).alloc _).trans hb1
  have hs1 : w.heap.size + 1 < w1.heap.size := Nat.lt_of_lt_of_le (by simp) hb1.size
  clear hb1
  go_wp2_with fail
  refine (HSA.out _ (hw.later hl1)).mono ?_
  rintro e w2 ⟨rfl, hb2⟩
  have k00 := cell_at hb2 k00 (by simp <;> omega)
  have k01 := cell_at hb2 k01 (by simp <;> omega)
  have k02 := cell_at hb2 k02 (by simp <;> omega)
  have k10 := cell_at hb2 k10 (by simp <;> omega)
  have k11 := cell_at hb2 k11 (by simp <;> omega)
  have k12 := cell_at hb2 k12 (by simp <;> omega)
  have hl2 := hl1.trans hb2
  have hs2 := Nat.lt_of_lt_of_le hs1 hb2.size
  clear hb2 hl1 hs1
  go_wp2_with fail
  refine (HSB.out _ (hw.later hl2)).mono ?_
  rintro e w3 ⟨rfl, hb3⟩
  have k00 := cell_at hb3 k00 (by simp <;> omega)
  have k01 := cell_at hb3 k01 (by simp <;> omega)
  have k02 := cell_at hb3 k02 (by simp <;> omega)
  have k10 := cell_at hb3 k10 (by simp <;> omega)
  have k11 := cell_at hb3 k11 (by simp <;> omega)
  have k12 := cell_at hb3 k12 (by simp <;> omega)
  have hl3 := hl2.trans hb3
  have hs3 := Nat.lt_of_lt_of_le hs2 hb3.size
  clear hb3 hl2 hs2
  go_wp2_with fail
  refine (Right_is _ _ _ _ HO.out _).mono ?_
  rintro e w4 ⟨rfl, hb4⟩
  have k00 := cell_at hb4 k00 (by simp <;> omega)
  have k01 := cell_at hb4 k01 (by simp <;> omega)
  have k02 := cell_at hb4 k02 (by simp <;> omega)
  have k10 := cell_at hb4 k10 (by simp <;> omega)
  have k11 := cell_at hb4 k11 (by simp <;> omega)
  have k12 := cell_at hb4 k12 (by simp <;> omega)
  have hl4 := hl3.trans hb4
  have hs4 := Nat.lt_of_lt_of_le hs3 hb4.size
  clear hb4 hl3 hs3
  go_wp2_with fail
  refine (HRA.out _ (hw.later hl4)).mono ?_
  rintro e w5 ⟨rfl, hb5⟩
  have k00 := cell_at hb5 k00 (by simp <;> omega)
  have k01 := cell_at hb5 k01 (by simp <;> omega)
  have k02 := cell_at hb5 k02 (by simp <;> omega)
  have k10 := cell_at hb5 k10 (by simp <;> omega)
  have k11 := cell_at hb5 k11 (by simp <;> omega)
  have k12 := cell_at hb5 k12 (by simp <;> omega)
  have hl5 := (hl4.trans hb5).alloc (.cells #[.int .i64 t, .int .u32 g, .int .u8 r] 27)
  have hs5 := Nat.lt_of_lt_of_le hs4 hb5.size
  have ht5 : w.heap.size < w5.heap.size := by omega
  clear hb5 hl4 hs4
  go_wp2_with fail
  go_ret
  exact ⟨rfl, hl5⟩

set_option maxRecDepth 100000 in
set_option maxHeartbeats 6400000 in
theorem HandleBack_tL (t g r t' g' r' : Int) (s : ByteArray) (n1 : 300 < s.size) (ho : okH t g r = true) (T : ByteArray) (hSa : ∀ w, Laid w → Calls Tryd.prog 11 #[.agg #[.int .i64 t, .int .u32 g, .int .u8 r]] w fun e w' => e = .returned (.tuple #[.string T, .int .i64 0]) ∧ Later w w') (hRa : ∀ w, Laid w → Calls Tryd.prog 13 #[.string T] w fun e w' => e = .returned (.tuple #[.agg #[.int .i64 t, .int .u32 g, .int .u8 r], .int .i64 0]) ∧ Later w w') (S : ByteArray) (hSb : ∀ w, Laid w → Calls Tryd.prog 11 #[.agg #[.int .i64 t', .int .u32 g', .int .u8 r']] w fun e w' => e = .returned (.tuple #[.string S, .int .i64 0]) ∧ Later w w') (c1 : (t == t') = false) (c4 : (T.toList == S.toList) = false) (w : World) (hw : Laid w) :
    Calls Tryd.prog 4 #[.agg #[.int .i64 t, .int .u32 g, .int .u8 r], .agg #[.int .i64 t', .int .u32 g', .int .u8 r'], .string s] w fun e w' => e = .returned (.bool true) ∧ Later w w' := by
  have HO := Lib.hid ho
  have HSA := Lib.hid hSa
  have HRA := Lib.hid hRa
  have HSB := Lib.hid hSb
  clear ho hSa hRa hSb
  go_enter Tryd.func4, Tryd.ntmps4
  go_wp2_with fail
  refine (awake_is _ (hw.later (((Later.refl w).alloc _).alloc _))).mono ?_
  rintro e w1 ⟨rfl, hb1⟩
  have k00 := cell_at hb1 (p := ⟨w.heap.size, 0, none⟩) (v := .int .i64 t) (by go_cell) (by simp <;> omega)
  have k01 := cell_at hb1 (p := ⟨w.heap.size, 1, none⟩) (v := .int .u32 g) (by go_cell) (by simp <;> omega)
  have k02 := cell_at hb1 (p := ⟨w.heap.size, 2, none⟩) (v := .int .u8 r) (by go_cell) (by simp <;> omega)
  have k10 := cell_at hb1 (p := ⟨w.heap.size + 1, 0, none⟩) (v := .int .i64 t') (by go_cell) (by simp <;> omega)
  have k11 := cell_at hb1 (p := ⟨w.heap.size + 1, 1, none⟩) (v := .int .u32 g') (by go_cell) (by simp <;> omega)
  have k12 := cell_at hb1 (p := ⟨w.heap.size + 1, 2, none⟩) (v := .int .u8 r') (by go_cell) (by simp <;> omega)
  have hl1 : Later w w1 := (((Later.refl w).alloc _).alloc _).trans hb1
  have hs1 : w.heap.size + 1 < w1.heap.size := Nat.lt_of_lt_of_le (by simp) hb1.size
  clear hb1
  go_wp2_with fail
  refine (HSA.out _ (hw.later hl1)).mono ?_
  rintro e w2 ⟨rfl, hb2⟩
  have k00 := cell_at hb2 k00 (by simp <;> omega)
  have k01 := cell_at hb2 k01 (by simp <;> omega)
  have k02 := cell_at hb2 k02 (by simp <;> omega)
  have k10 := cell_at hb2 k10 (by simp <;> omega)
  have k11 := cell_at hb2 k11 (by simp <;> omega)
  have k12 := cell_at hb2 k12 (by simp <;> omega)
  have hl2 := hl1.trans hb2
  have hs2 := Nat.lt_of_lt_of_le hs1 hb2.size
  clear hb2 hl1 hs1
  go_wp2_with fail
  refine (HSB.out _ (hw.later hl2)).mono ?_
  rintro e w3 ⟨rfl, hb3⟩
  have k00 := cell_at hb3 k00 (by simp <;> omega)
  have k01 := cell_at hb3 k01 (by simp <;> omega)
  have k02 := cell_at hb3 k02 (by simp <;> omega)
  have k10 := cell_at hb3 k10 (by simp <;> omega)
  have k11 := cell_at hb3 k11 (by simp <;> omega)
  have k12 := cell_at hb3 k12 (by simp <;> omega)
  have hl3 := hl2.trans hb3
  have hs3 := Nat.lt_of_lt_of_le hs2 hb3.size
  clear hb3 hl2 hs2
  go_wp2_with fail
  refine (Right_is _ _ _ _ HO.out _).mono ?_
  rintro e w4 ⟨rfl, hb4⟩
  have k00 := cell_at hb4 k00 (by simp <;> omega)
  have k01 := cell_at hb4 k01 (by simp <;> omega)
  have k02 := cell_at hb4 k02 (by simp <;> omega)
  have k10 := cell_at hb4 k10 (by simp <;> omega)
  have k11 := cell_at hb4 k11 (by simp <;> omega)
  have k12 := cell_at hb4 k12 (by simp <;> omega)
  have hl4 := hl3.trans hb4
  have hs4 := Nat.lt_of_lt_of_le hs3 hb4.size
  clear hb4 hl3 hs3
  go_wp2_with fail
  refine (HRA.out _ (hw.later hl4)).mono ?_
  rintro e w5 ⟨rfl, hb5⟩
  have k00 := cell_at hb5 k00 (by simp <;> omega)
  have k01 := cell_at hb5 k01 (by simp <;> omega)
  have k02 := cell_at hb5 k02 (by simp <;> omega)
  have k10 := cell_at hb5 k10 (by simp <;> omega)
  have k11 := cell_at hb5 k11 (by simp <;> omega)
  have k12 := cell_at hb5 k12 (by simp <;> omega)
  have hl5 := (hl4.trans hb5).alloc (.cells #[.int .i64 t, .int .u32 g, .int .u8 r] 27)
  have hs5 := Nat.lt_of_lt_of_le hs4 hb5.size
  have ht5 : w.heap.size < w5.heap.size := by omega
  clear hb5 hl4 hs4
  go_wp2_with fail
  go_ret
  exact ⟨rfl, hl5⟩

set_option maxRecDepth 100000 in
set_option maxHeartbeats 6400000 in
theorem HandleBack_gL (t g r t' g' r' : Int) (s : ByteArray) (n1 : 300 < s.size) (ho : okH t g r = true) (T : ByteArray) (hSa : ∀ w, Laid w → Calls Tryd.prog 11 #[.agg #[.int .i64 t, .int .u32 g, .int .u8 r]] w fun e w' => e = .returned (.tuple #[.string T, .int .i64 0]) ∧ Later w w') (hRa : ∀ w, Laid w → Calls Tryd.prog 13 #[.string T] w fun e w' => e = .returned (.tuple #[.agg #[.int .i64 t, .int .u32 g, .int .u8 r], .int .i64 0]) ∧ Later w w') (S : ByteArray) (hSb : ∀ w, Laid w → Calls Tryd.prog 11 #[.agg #[.int .i64 t', .int .u32 g', .int .u8 r']] w fun e w' => e = .returned (.tuple #[.string S, .int .i64 0]) ∧ Later w w') (c1 : (t == t') = true) (c2 : (g == g') = false) (c4 : (T.toList == S.toList) = false) (w : World) (hw : Laid w) :
    Calls Tryd.prog 4 #[.agg #[.int .i64 t, .int .u32 g, .int .u8 r], .agg #[.int .i64 t', .int .u32 g', .int .u8 r'], .string s] w fun e w' => e = .returned (.bool true) ∧ Later w w' := by
  have HO := Lib.hid ho
  have HSA := Lib.hid hSa
  have HRA := Lib.hid hRa
  have HSB := Lib.hid hSb
  clear ho hSa hRa hSb
  go_enter Tryd.func4, Tryd.ntmps4
  go_wp2_with fail
  refine (awake_is _ (hw.later (((Later.refl w).alloc _).alloc _))).mono ?_
  rintro e w1 ⟨rfl, hb1⟩
  have k00 := cell_at hb1 (p := ⟨w.heap.size, 0, none⟩) (v := .int .i64 t) (by go_cell) (by simp <;> omega)
  have k01 := cell_at hb1 (p := ⟨w.heap.size, 1, none⟩) (v := .int .u32 g) (by go_cell) (by simp <;> omega)
  have k02 := cell_at hb1 (p := ⟨w.heap.size, 2, none⟩) (v := .int .u8 r) (by go_cell) (by simp <;> omega)
  have k10 := cell_at hb1 (p := ⟨w.heap.size + 1, 0, none⟩) (v := .int .i64 t') (by go_cell) (by simp <;> omega)
  have k11 := cell_at hb1 (p := ⟨w.heap.size + 1, 1, none⟩) (v := .int .u32 g') (by go_cell) (by simp <;> omega)
  have k12 := cell_at hb1 (p := ⟨w.heap.size + 1, 2, none⟩) (v := .int .u8 r') (by go_cell) (by simp <;> omega)
  have hl1 : Later w w1 := (((Later.refl w).alloc _).alloc _).trans hb1
  have hs1 : w.heap.size + 1 < w1.heap.size := Nat.lt_of_lt_of_le (by simp) hb1.size
  clear hb1
  go_wp2_with fail
  refine (HSA.out _ (hw.later hl1)).mono ?_
  rintro e w2 ⟨rfl, hb2⟩
  have k00 := cell_at hb2 k00 (by simp <;> omega)
  have k01 := cell_at hb2 k01 (by simp <;> omega)
  have k02 := cell_at hb2 k02 (by simp <;> omega)
  have k10 := cell_at hb2 k10 (by simp <;> omega)
  have k11 := cell_at hb2 k11 (by simp <;> omega)
  have k12 := cell_at hb2 k12 (by simp <;> omega)
  have hl2 := hl1.trans hb2
  have hs2 := Nat.lt_of_lt_of_le hs1 hb2.size
  clear hb2 hl1 hs1
  go_wp2_with fail
  refine (HSB.out _ (hw.later hl2)).mono ?_
  rintro e w3 ⟨rfl, hb3⟩
  have k00 := cell_at hb3 k00 (by simp <;> omega)
  have k01 := cell_at hb3 k01 (by simp <;> omega)
  have k02 := cell_at hb3 k02 (by simp <;> omega)
  have k10 := cell_at hb3 k10 (by simp <;> omega)
  have k11 := cell_at hb3 k11 (by simp <;> omega)
  have k12 := cell_at hb3 k12 (by simp <;> omega)
  have hl3 := hl2.trans hb3
  have hs3 := Nat.lt_of_lt_of_le hs2 hb3.size
  clear hb3 hl2 hs2
  go_wp2_with fail
  refine (Right_is _ _ _ _ HO.out _).mono ?_
  rintro e w4 ⟨rfl, hb4⟩
  have k00 := cell_at hb4 k00 (by simp <;> omega)
  have k01 := cell_at hb4 k01 (by simp <;> omega)
  have k02 := cell_at hb4 k02 (by simp <;> omega)
  have k10 := cell_at hb4 k10 (by simp <;> omega)
  have k11 := cell_at hb4 k11 (by simp <;> omega)
  have k12 := cell_at hb4 k12 (by simp <;> omega)
  have hl4 := hl3.trans hb4
  have hs4 := Nat.lt_of_lt_of_le hs3 hb4.size
  clear hb4 hl3 hs3
  go_wp2_with fail
  refine (HRA.out _ (hw.later hl4)).mono ?_
  rintro e w5 ⟨rfl, hb5⟩
  have k00 := cell_at hb5 k00 (by simp <;> omega)
  have k01 := cell_at hb5 k01 (by simp <;> omega)
  have k02 := cell_at hb5 k02 (by simp <;> omega)
  have k10 := cell_at hb5 k10 (by simp <;> omega)
  have k11 := cell_at hb5 k11 (by simp <;> omega)
  have k12 := cell_at hb5 k12 (by simp <;> omega)
  have hl5 := (hl4.trans hb5).alloc (.cells #[.int .i64 t, .int .u32 g, .int .u8 r] 27)
  have hs5 := Nat.lt_of_lt_of_le hs4 hb5.size
  have ht5 : w.heap.size < w5.heap.size := by omega
  clear hb5 hl4 hs4
  go_wp2_with fail
  go_ret
  exact ⟨rfl, hl5⟩

set_option maxRecDepth 100000 in
set_option maxHeartbeats 6400000 in
theorem HandleBack_rL (t g r t' g' r' : Int) (s : ByteArray) (n1 : 300 < s.size) (ho : okH t g r = true) (T : ByteArray) (hSa : ∀ w, Laid w → Calls Tryd.prog 11 #[.agg #[.int .i64 t, .int .u32 g, .int .u8 r]] w fun e w' => e = .returned (.tuple #[.string T, .int .i64 0]) ∧ Later w w') (hRa : ∀ w, Laid w → Calls Tryd.prog 13 #[.string T] w fun e w' => e = .returned (.tuple #[.agg #[.int .i64 t, .int .u32 g, .int .u8 r], .int .i64 0]) ∧ Later w w') (S : ByteArray) (hSb : ∀ w, Laid w → Calls Tryd.prog 11 #[.agg #[.int .i64 t', .int .u32 g', .int .u8 r']] w fun e w' => e = .returned (.tuple #[.string S, .int .i64 0]) ∧ Later w w') (c1 : (t == t') = true) (c2 : (g == g') = true) (c3 : (r == r') = false) (c4 : (T.toList == S.toList) = false) (w : World) (hw : Laid w) :
    Calls Tryd.prog 4 #[.agg #[.int .i64 t, .int .u32 g, .int .u8 r], .agg #[.int .i64 t', .int .u32 g', .int .u8 r'], .string s] w fun e w' => e = .returned (.bool true) ∧ Later w w' := by
  have HO := Lib.hid ho
  have HSA := Lib.hid hSa
  have HRA := Lib.hid hRa
  have HSB := Lib.hid hSb
  clear ho hSa hRa hSb
  go_enter Tryd.func4, Tryd.ntmps4
  go_wp2_with fail
  refine (awake_is _ (hw.later (((Later.refl w).alloc _).alloc _))).mono ?_
  rintro e w1 ⟨rfl, hb1⟩
  have k00 := cell_at hb1 (p := ⟨w.heap.size, 0, none⟩) (v := .int .i64 t) (by go_cell) (by simp <;> omega)
  have k01 := cell_at hb1 (p := ⟨w.heap.size, 1, none⟩) (v := .int .u32 g) (by go_cell) (by simp <;> omega)
  have k02 := cell_at hb1 (p := ⟨w.heap.size, 2, none⟩) (v := .int .u8 r) (by go_cell) (by simp <;> omega)
  have k10 := cell_at hb1 (p := ⟨w.heap.size + 1, 0, none⟩) (v := .int .i64 t') (by go_cell) (by simp <;> omega)
  have k11 := cell_at hb1 (p := ⟨w.heap.size + 1, 1, none⟩) (v := .int .u32 g') (by go_cell) (by simp <;> omega)
  have k12 := cell_at hb1 (p := ⟨w.heap.size + 1, 2, none⟩) (v := .int .u8 r') (by go_cell) (by simp <;> omega)
  have hl1 : Later w w1 := (((Later.refl w).alloc _).alloc _).trans hb1
  have hs1 : w.heap.size + 1 < w1.heap.size := Nat.lt_of_lt_of_le (by simp) hb1.size
  clear hb1
  go_wp2_with fail
  refine (HSA.out _ (hw.later hl1)).mono ?_
  rintro e w2 ⟨rfl, hb2⟩
  have k00 := cell_at hb2 k00 (by simp <;> omega)
  have k01 := cell_at hb2 k01 (by simp <;> omega)
  have k02 := cell_at hb2 k02 (by simp <;> omega)
  have k10 := cell_at hb2 k10 (by simp <;> omega)
  have k11 := cell_at hb2 k11 (by simp <;> omega)
  have k12 := cell_at hb2 k12 (by simp <;> omega)
  have hl2 := hl1.trans hb2
  have hs2 := Nat.lt_of_lt_of_le hs1 hb2.size
  clear hb2 hl1 hs1
  go_wp2_with fail
  refine (HSB.out _ (hw.later hl2)).mono ?_
  rintro e w3 ⟨rfl, hb3⟩
  have k00 := cell_at hb3 k00 (by simp <;> omega)
  have k01 := cell_at hb3 k01 (by simp <;> omega)
  have k02 := cell_at hb3 k02 (by simp <;> omega)
  have k10 := cell_at hb3 k10 (by simp <;> omega)
  have k11 := cell_at hb3 k11 (by simp <;> omega)
  have k12 := cell_at hb3 k12 (by simp <;> omega)
  have hl3 := hl2.trans hb3
  have hs3 := Nat.lt_of_lt_of_le hs2 hb3.size
  clear hb3 hl2 hs2
  go_wp2_with fail
  refine (Right_is _ _ _ _ HO.out _).mono ?_
  rintro e w4 ⟨rfl, hb4⟩
  have k00 := cell_at hb4 k00 (by simp <;> omega)
  have k01 := cell_at hb4 k01 (by simp <;> omega)
  have k02 := cell_at hb4 k02 (by simp <;> omega)
  have k10 := cell_at hb4 k10 (by simp <;> omega)
  have k11 := cell_at hb4 k11 (by simp <;> omega)
  have k12 := cell_at hb4 k12 (by simp <;> omega)
  have hl4 := hl3.trans hb4
  have hs4 := Nat.lt_of_lt_of_le hs3 hb4.size
  clear hb4 hl3 hs3
  go_wp2_with fail
  refine (HRA.out _ (hw.later hl4)).mono ?_
  rintro e w5 ⟨rfl, hb5⟩
  have k00 := cell_at hb5 k00 (by simp <;> omega)
  have k01 := cell_at hb5 k01 (by simp <;> omega)
  have k02 := cell_at hb5 k02 (by simp <;> omega)
  have k10 := cell_at hb5 k10 (by simp <;> omega)
  have k11 := cell_at hb5 k11 (by simp <;> omega)
  have k12 := cell_at hb5 k12 (by simp <;> omega)
  have hl5 := (hl4.trans hb5).alloc (.cells #[.int .i64 t, .int .u32 g, .int .u8 r] 27)
  have hs5 := Nat.lt_of_lt_of_le hs4 hb5.size
  have ht5 : w.heap.size < w5.heap.size := by omega
  clear hb5 hl4 hs4
  go_wp2_with fail
  go_ret
  exact ⟨rfl, hl5⟩

set_option maxRecDepth 100000 in
set_option maxHeartbeats 6400000 in
theorem HandleBack_allL (t g r t' g' r' : Int) (s : ByteArray) (n1 : 300 < s.size) (ho : okH t g r = true) (T : ByteArray) (hSa : ∀ w, Laid w → Calls Tryd.prog 11 #[.agg #[.int .i64 t, .int .u32 g, .int .u8 r]] w fun e w' => e = .returned (.tuple #[.string T, .int .i64 0]) ∧ Later w w') (hRa : ∀ w, Laid w → Calls Tryd.prog 13 #[.string T] w fun e w' => e = .returned (.tuple #[.agg #[.int .i64 t, .int .u32 g, .int .u8 r], .int .i64 0]) ∧ Later w w') (S : ByteArray) (hSb : ∀ w, Laid w → Calls Tryd.prog 11 #[.agg #[.int .i64 t', .int .u32 g', .int .u8 r']] w fun e w' => e = .returned (.tuple #[.string S, .int .i64 0]) ∧ Later w w') (c1 : (t == t') = true) (c2 : (g == g') = true) (c3 : (r == r') = true) (c4 : (T.toList == S.toList) = true) (w : World) (hw : Laid w) :
    Calls Tryd.prog 4 #[.agg #[.int .i64 t, .int .u32 g, .int .u8 r], .agg #[.int .i64 t', .int .u32 g', .int .u8 r'], .string s] w fun e w' => e = .returned (.bool true) ∧ Later w w' := by
  have HO := Lib.hid ho
  have HSA := Lib.hid hSa
  have HRA := Lib.hid hRa
  have HSB := Lib.hid hSb
  clear ho hSa hRa hSb
  go_enter Tryd.func4, Tryd.ntmps4
  go_wp2_with fail
  refine (awake_is _ (hw.later (((Later.refl w).alloc _).alloc _))).mono ?_
  rintro e w1 ⟨rfl, hb1⟩
  have k00 := cell_at hb1 (p := ⟨w.heap.size, 0, none⟩) (v := .int .i64 t) (by go_cell) (by simp <;> omega)
  have k01 := cell_at hb1 (p := ⟨w.heap.size, 1, none⟩) (v := .int .u32 g) (by go_cell) (by simp <;> omega)
  have k02 := cell_at hb1 (p := ⟨w.heap.size, 2, none⟩) (v := .int .u8 r) (by go_cell) (by simp <;> omega)
  have k10 := cell_at hb1 (p := ⟨w.heap.size + 1, 0, none⟩) (v := .int .i64 t') (by go_cell) (by simp <;> omega)
  have k11 := cell_at hb1 (p := ⟨w.heap.size + 1, 1, none⟩) (v := .int .u32 g') (by go_cell) (by simp <;> omega)
  have k12 := cell_at hb1 (p := ⟨w.heap.size + 1, 2, none⟩) (v := .int .u8 r') (by go_cell) (by simp <;> omega)
  have hl1 : Later w w1 := (((Later.refl w).alloc _).alloc _).trans hb1
  have hs1 : w.heap.size + 1 < w1.heap.size := Nat.lt_of_lt_of_le (by simp) hb1.size
  clear hb1
  go_wp2_with fail
  refine (HSA.out _ (hw.later hl1)).mono ?_
  rintro e w2 ⟨rfl, hb2⟩
  have k00 := cell_at hb2 k00 (by simp <;> omega)
  have k01 := cell_at hb2 k01 (by simp <;> omega)
  have k02 := cell_at hb2 k02 (by simp <;> omega)
  have k10 := cell_at hb2 k10 (by simp <;> omega)
  have k11 := cell_at hb2 k11 (by simp <;> omega)
  have k12 := cell_at hb2 k12 (by simp <;> omega)
  have hl2 := hl1.trans hb2
  have hs2 := Nat.lt_of_lt_of_le hs1 hb2.size
  clear hb2 hl1 hs1
  go_wp2_with fail
  refine (HSB.out _ (hw.later hl2)).mono ?_
  rintro e w3 ⟨rfl, hb3⟩
  have k00 := cell_at hb3 k00 (by simp <;> omega)
  have k01 := cell_at hb3 k01 (by simp <;> omega)
  have k02 := cell_at hb3 k02 (by simp <;> omega)
  have k10 := cell_at hb3 k10 (by simp <;> omega)
  have k11 := cell_at hb3 k11 (by simp <;> omega)
  have k12 := cell_at hb3 k12 (by simp <;> omega)
  have hl3 := hl2.trans hb3
  have hs3 := Nat.lt_of_lt_of_le hs2 hb3.size
  clear hb3 hl2 hs2
  go_wp2_with fail
  refine (Right_is _ _ _ _ HO.out _).mono ?_
  rintro e w4 ⟨rfl, hb4⟩
  have k00 := cell_at hb4 k00 (by simp <;> omega)
  have k01 := cell_at hb4 k01 (by simp <;> omega)
  have k02 := cell_at hb4 k02 (by simp <;> omega)
  have k10 := cell_at hb4 k10 (by simp <;> omega)
  have k11 := cell_at hb4 k11 (by simp <;> omega)
  have k12 := cell_at hb4 k12 (by simp <;> omega)
  have hl4 := hl3.trans hb4
  have hs4 := Nat.lt_of_lt_of_le hs3 hb4.size
  clear hb4 hl3 hs3
  go_wp2_with fail
  refine (HRA.out _ (hw.later hl4)).mono ?_
  rintro e w5 ⟨rfl, hb5⟩
  have k00 := cell_at hb5 k00 (by simp <;> omega)
  have k01 := cell_at hb5 k01 (by simp <;> omega)
  have k02 := cell_at hb5 k02 (by simp <;> omega)
  have k10 := cell_at hb5 k10 (by simp <;> omega)
  have k11 := cell_at hb5 k11 (by simp <;> omega)
  have k12 := cell_at hb5 k12 (by simp <;> omega)
  have hl5 := (hl4.trans hb5).alloc (.cells #[.int .i64 t, .int .u32 g, .int .u8 r] 27)
  have hs5 := Nat.lt_of_lt_of_le hs4 hb5.size
  have ht5 : w.heap.size < w5.heap.size := by omega
  clear hb5 hl4 hs4
  go_wp2_with fail
  go_ret
  exact ⟨rfl, hl5⟩

set_option maxRecDepth 100000 in
set_option maxHeartbeats 6400000 in
theorem HandleBack_noN (t g r t' g' r' : Int) (s : ByteArray) (n1 : ¬ 300 < s.size) (hR : (∀ w, Laid w → Calls Tryd.prog 13 #[.string s] w fun e w' => e = .returned (.tuple #[.agg #[.int .i64 0, .int .u32 0, .int .u8 0], .int .i64 7]) ∧ Later w w')) (ho : okH t g r = false) (S : ByteArray) (k : Int) (hSb : ∀ w, Laid w → Calls Tryd.prog 11 #[.agg #[.int .i64 t', .int .u32 g', .int .u8 r']] w fun e w' => e = .returned (.tuple #[.string S, .int .i64 k]) ∧ Later w w') (w : World) (hw : Laid w) :
    Calls Tryd.prog 4 #[.agg #[.int .i64 t, .int .u32 g, .int .u8 r], .agg #[.int .i64 t', .int .u32 g', .int .u8 r'], .string s] w fun e w' => e = .returned (.bool true) ∧ Later w w' := by
  have HR := Lib.hid hR
  clear hR
  have HO := Lib.hid ho
  have HSB := Lib.hid hSb
  clear ho hSb
  go_enter Tryd.func4, Tryd.ntmps4
  go_wp2_with fail
  refine (awake_is _ (hw.later (((Later.refl w).alloc _).alloc _))).mono ?_
  rintro e w1 ⟨rfl, hb1⟩
  have k00 := cell_at hb1 (p := ⟨w.heap.size, 0, none⟩) (v := .int .i64 t) (by go_cell) (by simp <;> omega)
  have k01 := cell_at hb1 (p := ⟨w.heap.size, 1, none⟩) (v := .int .u32 g) (by go_cell) (by simp <;> omega)
  have k02 := cell_at hb1 (p := ⟨w.heap.size, 2, none⟩) (v := .int .u8 r) (by go_cell) (by simp <;> omega)
  have k10 := cell_at hb1 (p := ⟨w.heap.size + 1, 0, none⟩) (v := .int .i64 t') (by go_cell) (by simp <;> omega)
  have k11 := cell_at hb1 (p := ⟨w.heap.size + 1, 1, none⟩) (v := .int .u32 g') (by go_cell) (by simp <;> omega)
  have k12 := cell_at hb1 (p := ⟨w.heap.size + 1, 2, none⟩) (v := .int .u8 r') (by go_cell) (by simp <;> omega)
  have hl1 : Later w w1 := (((Later.refl w).alloc _).alloc _).trans hb1
  have hs1 : w.heap.size + 1 < w1.heap.size := Nat.lt_of_lt_of_le (by simp) hb1.size
  clear hb1
  go_wp2_with fail
  refine (Show_no t g r _ HO.out).mono ?_
  rintro e w2 ⟨rfl, hb2⟩
  have k00 := cell_at hb2 k00 (by simp <;> omega)
  have k01 := cell_at hb2 k01 (by simp <;> omega)
  have k02 := cell_at hb2 k02 (by simp <;> omega)
  have k10 := cell_at hb2 k10 (by simp <;> omega)
  have k11 := cell_at hb2 k11 (by simp <;> omega)
  have k12 := cell_at hb2 k12 (by simp <;> omega)
  have hl2 := hl1.trans hb2
  have hs2 := Nat.lt_of_lt_of_le hs1 hb2.size
  clear hb2 hl1 hs1
  go_wp2_with fail
  refine (HSB.out _ (hw.later hl2)).mono ?_
  rintro e w3 ⟨rfl, hb3⟩
  have k00 := cell_at hb3 k00 (by simp <;> omega)
  have k01 := cell_at hb3 k01 (by simp <;> omega)
  have k02 := cell_at hb3 k02 (by simp <;> omega)
  have k10 := cell_at hb3 k10 (by simp <;> omega)
  have k11 := cell_at hb3 k11 (by simp <;> omega)
  have k12 := cell_at hb3 k12 (by simp <;> omega)
  have hl3 := hl2.trans hb3
  have hs3 := Nat.lt_of_lt_of_le hs2 hb3.size
  clear hb3 hl2 hs2
  go_wp2_with fail
  refine (Right_is _ _ _ _ HO.out _).mono ?_
  rintro e w4 ⟨rfl, hb4⟩
  have hl4 := hl3.trans hb4
  clear hb4 hl3 hs3
  go_wp2_with fail
  refine (HR.out _ (hw.later hl4)).mono ?_
  rintro e v1 ⟨rfl, hc1⟩
  go_wp2_with fail
  go_ret
  exact ⟨rfl, (hl4.trans hc1).alloc _⟩

set_option maxRecDepth 100000 in
set_option maxHeartbeats 6400000 in
theorem HandleBack_badN (t g r t' g' r' : Int) (s : ByteArray) (n1 : ¬ 300 < s.size) (hR : (∀ w, Laid w → Calls Tryd.prog 13 #[.string s] w fun e w' => e = .returned (.tuple #[.agg #[.int .i64 0, .int .u32 0, .int .u8 0], .int .i64 7]) ∧ Later w w')) (ho : okH t g r = true) (T : ByteArray) (hSa : ∀ w, Laid w → Calls Tryd.prog 11 #[.agg #[.int .i64 t, .int .u32 g, .int .u8 r]] w fun e w' => e = .returned (.tuple #[.string T, .int .i64 0]) ∧ Later w w') (hRa : ∀ w, Laid w → Calls Tryd.prog 13 #[.string T] w fun e w' => e = .returned (.tuple #[.agg #[.int .i64 t, .int .u32 g, .int .u8 r], .int .i64 0]) ∧ Later w w') (S : ByteArray) (hSb : ∀ w, Laid w → Calls Tryd.prog 11 #[.agg #[.int .i64 t', .int .u32 g', .int .u8 r']] w fun e w' => e = .returned (.tuple #[.string S, .int .i64 4]) ∧ Later w w') (w : World) (hw : Laid w) :
    Calls Tryd.prog 4 #[.agg #[.int .i64 t, .int .u32 g, .int .u8 r], .agg #[.int .i64 t', .int .u32 g', .int .u8 r'], .string s] w fun e w' => e = .returned (.bool true) ∧ Later w w' := by
  have HR := Lib.hid hR
  clear hR
  have HO := Lib.hid ho
  have HSA := Lib.hid hSa
  have HRA := Lib.hid hRa
  have HSB := Lib.hid hSb
  clear ho hSa hRa hSb
  go_enter Tryd.func4, Tryd.ntmps4
  go_wp2_with fail
  refine (awake_is _ (hw.later (((Later.refl w).alloc _).alloc _))).mono ?_
  rintro e w1 ⟨rfl, hb1⟩
  have k00 := cell_at hb1 (p := ⟨w.heap.size, 0, none⟩) (v := .int .i64 t) (by go_cell) (by simp <;> omega)
  have k01 := cell_at hb1 (p := ⟨w.heap.size, 1, none⟩) (v := .int .u32 g) (by go_cell) (by simp <;> omega)
  have k02 := cell_at hb1 (p := ⟨w.heap.size, 2, none⟩) (v := .int .u8 r) (by go_cell) (by simp <;> omega)
  have k10 := cell_at hb1 (p := ⟨w.heap.size + 1, 0, none⟩) (v := .int .i64 t') (by go_cell) (by simp <;> omega)
  have k11 := cell_at hb1 (p := ⟨w.heap.size + 1, 1, none⟩) (v := .int .u32 g') (by go_cell) (by simp <;> omega)
  have k12 := cell_at hb1 (p := ⟨w.heap.size + 1, 2, none⟩) (v := .int .u8 r') (by go_cell) (by simp <;> omega)
  have hl1 : Later w w1 := (((Later.refl w).alloc _).alloc _).trans hb1
  have hs1 : w.heap.size + 1 < w1.heap.size := Nat.lt_of_lt_of_le (by simp) hb1.size
  clear hb1
  go_wp2_with fail
  refine (HSA.out _ (hw.later hl1)).mono ?_
  rintro e w2 ⟨rfl, hb2⟩
  have k00 := cell_at hb2 k00 (by simp <;> omega)
  have k01 := cell_at hb2 k01 (by simp <;> omega)
  have k02 := cell_at hb2 k02 (by simp <;> omega)
  have k10 := cell_at hb2 k10 (by simp <;> omega)
  have k11 := cell_at hb2 k11 (by simp <;> omega)
  have k12 := cell_at hb2 k12 (by simp <;> omega)
  have hl2 := hl1.trans hb2
  have hs2 := Nat.lt_of_lt_of_le hs1 hb2.size
  clear hb2 hl1 hs1
  go_wp2_with fail
  refine (HSB.out _ (hw.later hl2)).mono ?_
  rintro e w3 ⟨rfl, hb3⟩
  have k00 := cell_at hb3 k00 (by simp <;> omega)
  have k01 := cell_at hb3 k01 (by simp <;> omega)
  have k02 := cell_at hb3 k02 (by simp <;> omega)
  have k10 := cell_at hb3 k10 (by simp <;> omega)
  have k11 := cell_at hb3 k11 (by simp <;> omega)
  have k12 := cell_at hb3 k12 (by simp <;> omega)
  have hl3 := hl2.trans hb3
  have hs3 := Nat.lt_of_lt_of_le hs2 hb3.size
  clear hb3 hl2 hs2
  go_wp2_with fail
  refine (Right_is _ _ _ _ HO.out _).mono ?_
  rintro e w4 ⟨rfl, hb4⟩
  have k00 := cell_at hb4 k00 (by simp <;> omega)
  have k01 := cell_at hb4 k01 (by simp <;> omega)
  have k02 := cell_at hb4 k02 (by simp <;> omega)
  have k10 := cell_at hb4 k10 (by simp <;> omega)
  have k11 := cell_at hb4 k11 (by simp <;> omega)
  have k12 := cell_at hb4 k12 (by simp <;> omega)
  have hl4 := hl3.trans hb4
  have hs4 := Nat.lt_of_lt_of_le hs3 hb4.size
  clear hb4 hl3 hs3
  go_wp2_with fail
  refine (HRA.out _ (hw.later hl4)).mono ?_
  rintro e w5 ⟨rfl, hb5⟩
  have k00 := cell_at hb5 k00 (by simp <;> omega)
  have k01 := cell_at hb5 k01 (by simp <;> omega)
  have k02 := cell_at hb5 k02 (by simp <;> omega)
  have k10 := cell_at hb5 k10 (by simp <;> omega)
  have k11 := cell_at hb5 k11 (by simp <;> omega)
  have k12 := cell_at hb5 k12 (by simp <;> omega)
  have hl5 := (hl4.trans hb5).alloc (.cells #[.int .i64 t, .int .u32 g, .int .u8 r] 27)
  have hs5 := Nat.lt_of_lt_of_le hs4 hb5.size
  have ht5 : w.heap.size < w5.heap.size := by omega
  clear hb5 hl4 hs4
  go_wp2_with fail
  refine (HR.out _ (hw.later hl5)).mono ?_
  rintro e v1 ⟨rfl, hc1⟩
  go_wp2_with fail
  go_ret
  exact ⟨rfl, (hl5.trans hc1).alloc _⟩

set_option maxRecDepth 100000 in
set_option maxHeartbeats 6400000 in
theorem HandleBack_tN (t g r t' g' r' : Int) (s : ByteArray) (n1 : ¬ 300 < s.size) (hR : (∀ w, Laid w → Calls Tryd.prog 13 #[.string s] w fun e w' => e = .returned (.tuple #[.agg #[.int .i64 0, .int .u32 0, .int .u8 0], .int .i64 7]) ∧ Later w w')) (ho : okH t g r = true) (T : ByteArray) (hSa : ∀ w, Laid w → Calls Tryd.prog 11 #[.agg #[.int .i64 t, .int .u32 g, .int .u8 r]] w fun e w' => e = .returned (.tuple #[.string T, .int .i64 0]) ∧ Later w w') (hRa : ∀ w, Laid w → Calls Tryd.prog 13 #[.string T] w fun e w' => e = .returned (.tuple #[.agg #[.int .i64 t, .int .u32 g, .int .u8 r], .int .i64 0]) ∧ Later w w') (S : ByteArray) (hSb : ∀ w, Laid w → Calls Tryd.prog 11 #[.agg #[.int .i64 t', .int .u32 g', .int .u8 r']] w fun e w' => e = .returned (.tuple #[.string S, .int .i64 0]) ∧ Later w w') (c1 : (t == t') = false) (c4 : (T.toList == S.toList) = false) (w : World) (hw : Laid w) :
    Calls Tryd.prog 4 #[.agg #[.int .i64 t, .int .u32 g, .int .u8 r], .agg #[.int .i64 t', .int .u32 g', .int .u8 r'], .string s] w fun e w' => e = .returned (.bool true) ∧ Later w w' := by
  have HR := Lib.hid hR
  clear hR
  have HO := Lib.hid ho
  have HSA := Lib.hid hSa
  have HRA := Lib.hid hRa
  have HSB := Lib.hid hSb
  clear ho hSa hRa hSb
  go_enter Tryd.func4, Tryd.ntmps4
  go_wp2_with fail
  refine (awake_is _ (hw.later (((Later.refl w).alloc _).alloc _))).mono ?_
  rintro e w1 ⟨rfl, hb1⟩
  have k00 := cell_at hb1 (p := ⟨w.heap.size, 0, none⟩) (v := .int .i64 t) (by go_cell) (by simp <;> omega)
  have k01 := cell_at hb1 (p := ⟨w.heap.size, 1, none⟩) (v := .int .u32 g) (by go_cell) (by simp <;> omega)
  have k02 := cell_at hb1 (p := ⟨w.heap.size, 2, none⟩) (v := .int .u8 r) (by go_cell) (by simp <;> omega)
  have k10 := cell_at hb1 (p := ⟨w.heap.size + 1, 0, none⟩) (v := .int .i64 t') (by go_cell) (by simp <;> omega)
  have k11 := cell_at hb1 (p := ⟨w.heap.size + 1, 1, none⟩) (v := .int .u32 g') (by go_cell) (by simp <;> omega)
  have k12 := cell_at hb1 (p := ⟨w.heap.size + 1, 2, none⟩) (v := .int .u8 r') (by go_cell) (by simp <;> omega)
  have hl1 : Later w w1 := (((Later.refl w).alloc _).alloc _).trans hb1
  have hs1 : w.heap.size + 1 < w1.heap.size := Nat.lt_of_lt_of_le (by simp) hb1.size
  clear hb1
  go_wp2_with fail
  refine (HSA.out _ (hw.later hl1)).mono ?_
  rintro e w2 ⟨rfl, hb2⟩
  have k00 := cell_at hb2 k00 (by simp <;> omega)
  have k01 := cell_at hb2 k01 (by simp <;> omega)
  have k02 := cell_at hb2 k02 (by simp <;> omega)
  have k10 := cell_at hb2 k10 (by simp <;> omega)
  have k11 := cell_at hb2 k11 (by simp <;> omega)
  have k12 := cell_at hb2 k12 (by simp <;> omega)
  have hl2 := hl1.trans hb2
  have hs2 := Nat.lt_of_lt_of_le hs1 hb2.size
  clear hb2 hl1 hs1
  go_wp2_with fail
  refine (HSB.out _ (hw.later hl2)).mono ?_
  rintro e w3 ⟨rfl, hb3⟩
  have k00 := cell_at hb3 k00 (by simp <;> omega)
  have k01 := cell_at hb3 k01 (by simp <;> omega)
  have k02 := cell_at hb3 k02 (by simp <;> omega)
  have k10 := cell_at hb3 k10 (by simp <;> omega)
  have k11 := cell_at hb3 k11 (by simp <;> omega)
  have k12 := cell_at hb3 k12 (by simp <;> omega)
  have hl3 := hl2.trans hb3
  have hs3 := Nat.lt_of_lt_of_le hs2 hb3.size
  clear hb3 hl2 hs2
  go_wp2_with fail
  refine (Right_is _ _ _ _ HO.out _).mono ?_
  rintro e w4 ⟨rfl, hb4⟩
  have k00 := cell_at hb4 k00 (by simp <;> omega)
  have k01 := cell_at hb4 k01 (by simp <;> omega)
  have k02 := cell_at hb4 k02 (by simp <;> omega)
  have k10 := cell_at hb4 k10 (by simp <;> omega)
  have k11 := cell_at hb4 k11 (by simp <;> omega)
  have k12 := cell_at hb4 k12 (by simp <;> omega)
  have hl4 := hl3.trans hb4
  have hs4 := Nat.lt_of_lt_of_le hs3 hb4.size
  clear hb4 hl3 hs3
  go_wp2_with fail
  refine (HRA.out _ (hw.later hl4)).mono ?_
  rintro e w5 ⟨rfl, hb5⟩
  have k00 := cell_at hb5 k00 (by simp <;> omega)
  have k01 := cell_at hb5 k01 (by simp <;> omega)
  have k02 := cell_at hb5 k02 (by simp <;> omega)
  have k10 := cell_at hb5 k10 (by simp <;> omega)
  have k11 := cell_at hb5 k11 (by simp <;> omega)
  have k12 := cell_at hb5 k12 (by simp <;> omega)
  have hl5 := (hl4.trans hb5).alloc (.cells #[.int .i64 t, .int .u32 g, .int .u8 r] 27)
  have hs5 := Nat.lt_of_lt_of_le hs4 hb5.size
  have ht5 : w.heap.size < w5.heap.size := by omega
  clear hb5 hl4 hs4
  go_wp2_with fail
  refine (HR.out _ (hw.later hl5)).mono ?_
  rintro e v1 ⟨rfl, hc1⟩
  go_wp2_with fail
  go_ret
  exact ⟨rfl, (hl5.trans hc1).alloc _⟩

set_option maxRecDepth 100000 in
set_option maxHeartbeats 6400000 in
theorem HandleBack_gN (t g r t' g' r' : Int) (s : ByteArray) (n1 : ¬ 300 < s.size) (hR : (∀ w, Laid w → Calls Tryd.prog 13 #[.string s] w fun e w' => e = .returned (.tuple #[.agg #[.int .i64 0, .int .u32 0, .int .u8 0], .int .i64 7]) ∧ Later w w')) (ho : okH t g r = true) (T : ByteArray) (hSa : ∀ w, Laid w → Calls Tryd.prog 11 #[.agg #[.int .i64 t, .int .u32 g, .int .u8 r]] w fun e w' => e = .returned (.tuple #[.string T, .int .i64 0]) ∧ Later w w') (hRa : ∀ w, Laid w → Calls Tryd.prog 13 #[.string T] w fun e w' => e = .returned (.tuple #[.agg #[.int .i64 t, .int .u32 g, .int .u8 r], .int .i64 0]) ∧ Later w w') (S : ByteArray) (hSb : ∀ w, Laid w → Calls Tryd.prog 11 #[.agg #[.int .i64 t', .int .u32 g', .int .u8 r']] w fun e w' => e = .returned (.tuple #[.string S, .int .i64 0]) ∧ Later w w') (c1 : (t == t') = true) (c2 : (g == g') = false) (c4 : (T.toList == S.toList) = false) (w : World) (hw : Laid w) :
    Calls Tryd.prog 4 #[.agg #[.int .i64 t, .int .u32 g, .int .u8 r], .agg #[.int .i64 t', .int .u32 g', .int .u8 r'], .string s] w fun e w' => e = .returned (.bool true) ∧ Later w w' := by
  have HR := Lib.hid hR
  clear hR
  have HO := Lib.hid ho
  have HSA := Lib.hid hSa
  have HRA := Lib.hid hRa
  have HSB := Lib.hid hSb
  clear ho hSa hRa hSb
  go_enter Tryd.func4, Tryd.ntmps4
  go_wp2_with fail
  refine (awake_is _ (hw.later (((Later.refl w).alloc _).alloc _))).mono ?_
  rintro e w1 ⟨rfl, hb1⟩
  have k00 := cell_at hb1 (p := ⟨w.heap.size, 0, none⟩) (v := .int .i64 t) (by go_cell) (by simp <;> omega)
  have k01 := cell_at hb1 (p := ⟨w.heap.size, 1, none⟩) (v := .int .u32 g) (by go_cell) (by simp <;> omega)
  have k02 := cell_at hb1 (p := ⟨w.heap.size, 2, none⟩) (v := .int .u8 r) (by go_cell) (by simp <;> omega)
  have k10 := cell_at hb1 (p := ⟨w.heap.size + 1, 0, none⟩) (v := .int .i64 t') (by go_cell) (by simp <;> omega)
  have k11 := cell_at hb1 (p := ⟨w.heap.size + 1, 1, none⟩) (v := .int .u32 g') (by go_cell) (by simp <;> omega)
  have k12 := cell_at hb1 (p := ⟨w.heap.size + 1, 2, none⟩) (v := .int .u8 r') (by go_cell) (by simp <;> omega)
  have hl1 : Later w w1 := (((Later.refl w).alloc _).alloc _).trans hb1
  have hs1 : w.heap.size + 1 < w1.heap.size := Nat.lt_of_lt_of_le (by simp) hb1.size
  clear hb1
  go_wp2_with fail
  refine (HSA.out _ (hw.later hl1)).mono ?_
  rintro e w2 ⟨rfl, hb2⟩
  have k00 := cell_at hb2 k00 (by simp <;> omega)
  have k01 := cell_at hb2 k01 (by simp <;> omega)
  have k02 := cell_at hb2 k02 (by simp <;> omega)
  have k10 := cell_at hb2 k10 (by simp <;> omega)
  have k11 := cell_at hb2 k11 (by simp <;> omega)
  have k12 := cell_at hb2 k12 (by simp <;> omega)
  have hl2 := hl1.trans hb2
  have hs2 := Nat.lt_of_lt_of_le hs1 hb2.size
  clear hb2 hl1 hs1
  go_wp2_with fail
  refine (HSB.out _ (hw.later hl2)).mono ?_
  rintro e w3 ⟨rfl, hb3⟩
  have k00 := cell_at hb3 k00 (by simp <;> omega)
  have k01 := cell_at hb3 k01 (by simp <;> omega)
  have k02 := cell_at hb3 k02 (by simp <;> omega)
  have k10 := cell_at hb3 k10 (by simp <;> omega)
  have k11 := cell_at hb3 k11 (by simp <;> omega)
  have k12 := cell_at hb3 k12 (by simp <;> omega)
  have hl3 := hl2.trans hb3
  have hs3 := Nat.lt_of_lt_of_le hs2 hb3.size
  clear hb3 hl2 hs2
  go_wp2_with fail
  refine (Right_is _ _ _ _ HO.out _).mono ?_
  rintro e w4 ⟨rfl, hb4⟩
  have k00 := cell_at hb4 k00 (by simp <;> omega)
  have k01 := cell_at hb4 k01 (by simp <;> omega)
  have k02 := cell_at hb4 k02 (by simp <;> omega)
  have k10 := cell_at hb4 k10 (by simp <;> omega)
  have k11 := cell_at hb4 k11 (by simp <;> omega)
  have k12 := cell_at hb4 k12 (by simp <;> omega)
  have hl4 := hl3.trans hb4
  have hs4 := Nat.lt_of_lt_of_le hs3 hb4.size
  clear hb4 hl3 hs3
  go_wp2_with fail
  refine (HRA.out _ (hw.later hl4)).mono ?_
  rintro e w5 ⟨rfl, hb5⟩
  have k00 := cell_at hb5 k00 (by simp <;> omega)
  have k01 := cell_at hb5 k01 (by simp <;> omega)
  have k02 := cell_at hb5 k02 (by simp <;> omega)
  have k10 := cell_at hb5 k10 (by simp <;> omega)
  have k11 := cell_at hb5 k11 (by simp <;> omega)
  have k12 := cell_at hb5 k12 (by simp <;> omega)
  have hl5 := (hl4.trans hb5).alloc (.cells #[.int .i64 t, .int .u32 g, .int .u8 r] 27)
  have hs5 := Nat.lt_of_lt_of_le hs4 hb5.size
  have ht5 : w.heap.size < w5.heap.size := by omega
  clear hb5 hl4 hs4
  go_wp2_with fail
  refine (HR.out _ (hw.later hl5)).mono ?_
  rintro e v1 ⟨rfl, hc1⟩
  go_wp2_with fail
  go_ret
  exact ⟨rfl, (hl5.trans hc1).alloc _⟩

set_option maxRecDepth 100000 in
set_option maxHeartbeats 6400000 in
theorem HandleBack_rN (t g r t' g' r' : Int) (s : ByteArray) (n1 : ¬ 300 < s.size) (hR : (∀ w, Laid w → Calls Tryd.prog 13 #[.string s] w fun e w' => e = .returned (.tuple #[.agg #[.int .i64 0, .int .u32 0, .int .u8 0], .int .i64 7]) ∧ Later w w')) (ho : okH t g r = true) (T : ByteArray) (hSa : ∀ w, Laid w → Calls Tryd.prog 11 #[.agg #[.int .i64 t, .int .u32 g, .int .u8 r]] w fun e w' => e = .returned (.tuple #[.string T, .int .i64 0]) ∧ Later w w') (hRa : ∀ w, Laid w → Calls Tryd.prog 13 #[.string T] w fun e w' => e = .returned (.tuple #[.agg #[.int .i64 t, .int .u32 g, .int .u8 r], .int .i64 0]) ∧ Later w w') (S : ByteArray) (hSb : ∀ w, Laid w → Calls Tryd.prog 11 #[.agg #[.int .i64 t', .int .u32 g', .int .u8 r']] w fun e w' => e = .returned (.tuple #[.string S, .int .i64 0]) ∧ Later w w') (c1 : (t == t') = true) (c2 : (g == g') = true) (c3 : (r == r') = false) (c4 : (T.toList == S.toList) = false) (w : World) (hw : Laid w) :
    Calls Tryd.prog 4 #[.agg #[.int .i64 t, .int .u32 g, .int .u8 r], .agg #[.int .i64 t', .int .u32 g', .int .u8 r'], .string s] w fun e w' => e = .returned (.bool true) ∧ Later w w' := by
  have HR := Lib.hid hR
  clear hR
  have HO := Lib.hid ho
  have HSA := Lib.hid hSa
  have HRA := Lib.hid hRa
  have HSB := Lib.hid hSb
  clear ho hSa hRa hSb
  go_enter Tryd.func4, Tryd.ntmps4
  go_wp2_with fail
  refine (awake_is _ (hw.later (((Later.refl w).alloc _).alloc _))).mono ?_
  rintro e w1 ⟨rfl, hb1⟩
  have k00 := cell_at hb1 (p := ⟨w.heap.size, 0, none⟩) (v := .int .i64 t) (by go_cell) (by simp <;> omega)
  have k01 := cell_at hb1 (p := ⟨w.heap.size, 1, none⟩) (v := .int .u32 g) (by go_cell) (by simp <;> omega)
  have k02 := cell_at hb1 (p := ⟨w.heap.size, 2, none⟩) (v := .int .u8 r) (by go_cell) (by simp <;> omega)
  have k10 := cell_at hb1 (p := ⟨w.heap.size + 1, 0, none⟩) (v := .int .i64 t') (by go_cell) (by simp <;> omega)
  have k11 := cell_at hb1 (p := ⟨w.heap.size + 1, 1, none⟩) (v := .int .u32 g') (by go_cell) (by simp <;> omega)
  have k12 := cell_at hb1 (p := ⟨w.heap.size + 1, 2, none⟩) (v := .int .u8 r') (by go_cell) (by simp <;> omega)
  have hl1 : Later w w1 := (((Later.refl w).alloc _).alloc _).trans hb1
  have hs1 : w.heap.size + 1 < w1.heap.size := Nat.lt_of_lt_of_le (by simp) hb1.size
  clear hb1
  go_wp2_with fail
  refine (HSA.out _ (hw.later hl1)).mono ?_
  rintro e w2 ⟨rfl, hb2⟩
  have k00 := cell_at hb2 k00 (by simp <;> omega)
  have k01 := cell_at hb2 k01 (by simp <;> omega)
  have k02 := cell_at hb2 k02 (by simp <;> omega)
  have k10 := cell_at hb2 k10 (by simp <;> omega)
  have k11 := cell_at hb2 k11 (by simp <;> omega)
  have k12 := cell_at hb2 k12 (by simp <;> omega)
  have hl2 := hl1.trans hb2
  have hs2 := Nat.lt_of_lt_of_le hs1 hb2.size
  clear hb2 hl1 hs1
  go_wp2_with fail
  refine (HSB.out _ (hw.later hl2)).mono ?_
  rintro e w3 ⟨rfl, hb3⟩
  have k00 := cell_at hb3 k00 (by simp <;> omega)
  have k01 := cell_at hb3 k01 (by simp <;> omega)
  have k02 := cell_at hb3 k02 (by simp <;> omega)
  have k10 := cell_at hb3 k10 (by simp <;> omega)
  have k11 := cell_at hb3 k11 (by simp <;> omega)
  have k12 := cell_at hb3 k12 (by simp <;> omega)
  have hl3 := hl2.trans hb3
  have hs3 := Nat.lt_of_lt_of_le hs2 hb3.size
  clear hb3 hl2 hs2
  go_wp2_with fail
  refine (Right_is _ _ _ _ HO.out _).mono ?_
  rintro e w4 ⟨rfl, hb4⟩
  have k00 := cell_at hb4 k00 (by simp <;> omega)
  have k01 := cell_at hb4 k01 (by simp <;> omega)
  have k02 := cell_at hb4 k02 (by simp <;> omega)
  have k10 := cell_at hb4 k10 (by simp <;> omega)
  have k11 := cell_at hb4 k11 (by simp <;> omega)
  have k12 := cell_at hb4 k12 (by simp <;> omega)
  have hl4 := hl3.trans hb4
  have hs4 := Nat.lt_of_lt_of_le hs3 hb4.size
  clear hb4 hl3 hs3
  go_wp2_with fail
  refine (HRA.out _ (hw.later hl4)).mono ?_
  rintro e w5 ⟨rfl, hb5⟩
  have k00 := cell_at hb5 k00 (by simp <;> omega)
  have k01 := cell_at hb5 k01 (by simp <;> omega)
  have k02 := cell_at hb5 k02 (by simp <;> omega)
  have k10 := cell_at hb5 k10 (by simp <;> omega)
  have k11 := cell_at hb5 k11 (by simp <;> omega)
  have k12 := cell_at hb5 k12 (by simp <;> omega)
  have hl5 := (hl4.trans hb5).alloc (.cells #[.int .i64 t, .int .u32 g, .int .u8 r] 27)
  have hs5 := Nat.lt_of_lt_of_le hs4 hb5.size
  have ht5 : w.heap.size < w5.heap.size := by omega
  clear hb5 hl4 hs4
  go_wp2_with fail
  refine (HR.out _ (hw.later hl5)).mono ?_
  rintro e v1 ⟨rfl, hc1⟩
  go_wp2_with fail
  go_ret
  exact ⟨rfl, (hl5.trans hc1).alloc _⟩

set_option maxRecDepth 100000 in
set_option maxHeartbeats 6400000 in
theorem HandleBack_allN (t g r t' g' r' : Int) (s : ByteArray) (n1 : ¬ 300 < s.size) (hR : (∀ w, Laid w → Calls Tryd.prog 13 #[.string s] w fun e w' => e = .returned (.tuple #[.agg #[.int .i64 0, .int .u32 0, .int .u8 0], .int .i64 7]) ∧ Later w w')) (ho : okH t g r = true) (T : ByteArray) (hSa : ∀ w, Laid w → Calls Tryd.prog 11 #[.agg #[.int .i64 t, .int .u32 g, .int .u8 r]] w fun e w' => e = .returned (.tuple #[.string T, .int .i64 0]) ∧ Later w w') (hRa : ∀ w, Laid w → Calls Tryd.prog 13 #[.string T] w fun e w' => e = .returned (.tuple #[.agg #[.int .i64 t, .int .u32 g, .int .u8 r], .int .i64 0]) ∧ Later w w') (S : ByteArray) (hSb : ∀ w, Laid w → Calls Tryd.prog 11 #[.agg #[.int .i64 t', .int .u32 g', .int .u8 r']] w fun e w' => e = .returned (.tuple #[.string S, .int .i64 0]) ∧ Later w w') (c1 : (t == t') = true) (c2 : (g == g') = true) (c3 : (r == r') = true) (c4 : (T.toList == S.toList) = true) (w : World) (hw : Laid w) :
    Calls Tryd.prog 4 #[.agg #[.int .i64 t, .int .u32 g, .int .u8 r], .agg #[.int .i64 t', .int .u32 g', .int .u8 r'], .string s] w fun e w' => e = .returned (.bool true) ∧ Later w w' := by
  have HR := Lib.hid hR
  clear hR
  have HO := Lib.hid ho
  have HSA := Lib.hid hSa
  have HRA := Lib.hid hRa
  have HSB := Lib.hid hSb
  clear ho hSa hRa hSb
  go_enter Tryd.func4, Tryd.ntmps4
  go_wp2_with fail
  refine (awake_is _ (hw.later (((Later.refl w).alloc _).alloc _))).mono ?_
  rintro e w1 ⟨rfl, hb1⟩
  have k00 := cell_at hb1 (p := ⟨w.heap.size, 0, none⟩) (v := .int .i64 t) (by go_cell) (by simp <;> omega)
  have k01 := cell_at hb1 (p := ⟨w.heap.size, 1, none⟩) (v := .int .u32 g) (by go_cell) (by simp <;> omega)
  have k02 := cell_at hb1 (p := ⟨w.heap.size, 2, none⟩) (v := .int .u8 r) (by go_cell) (by simp <;> omega)
  have k10 := cell_at hb1 (p := ⟨w.heap.size + 1, 0, none⟩) (v := .int .i64 t') (by go_cell) (by simp <;> omega)
  have k11 := cell_at hb1 (p := ⟨w.heap.size + 1, 1, none⟩) (v := .int .u32 g') (by go_cell) (by simp <;> omega)
  have k12 := cell_at hb1 (p := ⟨w.heap.size + 1, 2, none⟩) (v := .int .u8 r') (by go_cell) (by simp <;> omega)
  have hl1 : Later w w1 := (((Later.refl w).alloc _).alloc _).trans hb1
  have hs1 : w.heap.size + 1 < w1.heap.size := Nat.lt_of_lt_of_le (by simp) hb1.size
  clear hb1
  go_wp2_with fail
  refine (HSA.out _ (hw.later hl1)).mono ?_
  rintro e w2 ⟨rfl, hb2⟩
  have k00 := cell_at hb2 k00 (by simp <;> omega)
  have k01 := cell_at hb2 k01 (by simp <;> omega)
  have k02 := cell_at hb2 k02 (by simp <;> omega)
  have k10 := cell_at hb2 k10 (by simp <;> omega)
  have k11 := cell_at hb2 k11 (by simp <;> omega)
  have k12 := cell_at hb2 k12 (by simp <;> omega)
  have hl2 := hl1.trans hb2
  have hs2 := Nat.lt_of_lt_of_le hs1 hb2.size
  clear hb2 hl1 hs1
  go_wp2_with fail
  refine (HSB.out _ (hw.later hl2)).mono ?_
  rintro e w3 ⟨rfl, hb3⟩
  have k00 := cell_at hb3 k00 (by simp <;> omega)
  have k01 := cell_at hb3 k01 (by simp <;> omega)
  have k02 := cell_at hb3 k02 (by simp <;> omega)
  have k10 := cell_at hb3 k10 (by simp <;> omega)
  have k11 := cell_at hb3 k11 (by simp <;> omega)
  have k12 := cell_at hb3 k12 (by simp <;> omega)
  have hl3 := hl2.trans hb3
  have hs3 := Nat.lt_of_lt_of_le hs2 hb3.size
  clear hb3 hl2 hs2
  go_wp2_with fail
  refine (Right_is _ _ _ _ HO.out _).mono ?_
  rintro e w4 ⟨rfl, hb4⟩
  have k00 := cell_at hb4 k00 (by simp <;> omega)
  have k01 := cell_at hb4 k01 (by simp <;> omega)
  have k02 := cell_at hb4 k02 (by simp <;> omega)
  have k10 := cell_at hb4 k10 (by simp <;> omega)
  have k11 := cell_at hb4 k11 (by simp <;> omega)
  have k12 := cell_at hb4 k12 (by simp <;> omega)
  have hl4 := hl3.trans hb4
  have hs4 := Nat.lt_of_lt_of_le hs3 hb4.size
  clear hb4 hl3 hs3
  go_wp2_with fail
  refine (HRA.out _ (hw.later hl4)).mono ?_
  rintro e w5 ⟨rfl, hb5⟩
  have k00 := cell_at hb5 k00 (by simp <;> omega)
  have k01 := cell_at hb5 k01 (by simp <;> omega)
  have k02 := cell_at hb5 k02 (by simp <;> omega)
  have k10 := cell_at hb5 k10 (by simp <;> omega)
  have k11 := cell_at hb5 k11 (by simp <;> omega)
  have k12 := cell_at hb5 k12 (by simp <;> omega)
  have hl5 := (hl4.trans hb5).alloc (.cells #[.int .i64 t, .int .u32 g, .int .u8 r] 27)
  have hs5 := Nat.lt_of_lt_of_le hs4 hb5.size
  have ht5 : w.heap.size < w5.heap.size := by omega
  clear hb5 hl4 hs4
  go_wp2_with fail
  refine (HR.out _ (hw.later hl5)).mono ?_
  rintro e v1 ⟨rfl, hc1⟩
  go_wp2_with fail
  go_ret
  exact ⟨rfl, (hl5.trans hc1).alloc _⟩

set_option maxRecDepth 100000 in
set_option maxHeartbeats 6400000 in
theorem HandleBack_noY (t g r t' g' r' : Int) (s : ByteArray) (n1 : ¬ 300 < s.size) (xt xg xr : Int) (xo : okH xt xg xr = true) (hR : (∀ w, Laid w → Calls Tryd.prog 13 #[.string s] w fun e w' => e = .returned (.tuple #[.agg #[.int .i64 xt, .int .u32 xg, .int .u8 xr], .int .i64 0]) ∧ Later w w')) (hS : ∀ w, Laid w → Calls Tryd.prog 11 #[.agg #[.int .i64 xt, .int .u32 xg, .int .u8 xr]] w fun e w' => e = .returned (.tuple #[.string s, .int .i64 0]) ∧ Later w w') (ho : okH t g r = false) (S : ByteArray) (k : Int) (hSb : ∀ w, Laid w → Calls Tryd.prog 11 #[.agg #[.int .i64 t', .int .u32 g', .int .u8 r']] w fun e w' => e = .returned (.tuple #[.string S, .int .i64 k]) ∧ Later w w') (w : World) (hw : Laid w) :
    Calls Tryd.prog 4 #[.agg #[.int .i64 t, .int .u32 g, .int .u8 r], .agg #[.int .i64 t', .int .u32 g', .int .u8 r'], .string s] w fun e w' => e = .returned (.bool true) ∧ Later w w' := by
  have HR := Lib.hid hR
  have HSS := Lib.hid hS
  have HXO := Lib.hid xo
  clear hR hS xo
  have HO := Lib.hid ho
  have HSB := Lib.hid hSb
  clear ho hSb
  go_enter Tryd.func4, Tryd.ntmps4
  go_wp2_with fail
  refine (awake_is _ (hw.later (((Later.refl w).alloc _).alloc _))).mono ?_
  rintro e w1 ⟨rfl, hb1⟩
  have k00 := cell_at hb1 (p := ⟨w.heap.size, 0, none⟩) (v := .int .i64 t) (by go_cell) (by simp <;> omega)
  have k01 := cell_at hb1 (p := ⟨w.heap.size, 1, none⟩) (v := .int .u32 g) (by go_cell) (by simp <;> omega)
  have k02 := cell_at hb1 (p := ⟨w.heap.size, 2, none⟩) (v := .int .u8 r) (by go_cell) (by simp <;> omega)
  have k10 := cell_at hb1 (p := ⟨w.heap.size + 1, 0, none⟩) (v := .int .i64 t') (by go_cell) (by simp <;> omega)
  have k11 := cell_at hb1 (p := ⟨w.heap.size + 1, 1, none⟩) (v := .int .u32 g') (by go_cell) (by simp <;> omega)
  have k12 := cell_at hb1 (p := ⟨w.heap.size + 1, 2, none⟩) (v := .int .u8 r') (by go_cell) (by simp <;> omega)
  have hl1 : Later w w1 := (((Later.refl w).alloc _).alloc _).trans hb1
  have hs1 : w.heap.size + 1 < w1.heap.size := Nat.lt_of_lt_of_le (by simp) hb1.size
  clear hb1
  go_wp2_with fail
  refine (Show_no t g r _ HO.out).mono ?_
  rintro e w2 ⟨rfl, hb2⟩
  have k00 := cell_at hb2 k00 (by simp <;> omega)
  have k01 := cell_at hb2 k01 (by simp <;> omega)
  have k02 := cell_at hb2 k02 (by simp <;> omega)
  have k10 := cell_at hb2 k10 (by simp <;> omega)
  have k11 := cell_at hb2 k11 (by simp <;> omega)
  have k12 := cell_at hb2 k12 (by simp <;> omega)
  have hl2 := hl1.trans hb2
  have hs2 := Nat.lt_of_lt_of_le hs1 hb2.size
  clear hb2 hl1 hs1
  go_wp2_with fail
  refine (HSB.out _ (hw.later hl2)).mono ?_
  rintro e w3 ⟨rfl, hb3⟩
  have k00 := cell_at hb3 k00 (by simp <;> omega)
  have k01 := cell_at hb3 k01 (by simp <;> omega)
  have k02 := cell_at hb3 k02 (by simp <;> omega)
  have k10 := cell_at hb3 k10 (by simp <;> omega)
  have k11 := cell_at hb3 k11 (by simp <;> omega)
  have k12 := cell_at hb3 k12 (by simp <;> omega)
  have hl3 := hl2.trans hb3
  have hs3 := Nat.lt_of_lt_of_le hs2 hb3.size
  clear hb3 hl2 hs2
  go_wp2_with fail
  refine (Right_is _ _ _ _ HO.out _).mono ?_
  rintro e w4 ⟨rfl, hb4⟩
  have hl4 := hl3.trans hb4
  clear hb4 hl3 hs3
  go_wp2_with fail
  refine (HR.out _ (hw.later hl4)).mono ?_
  rintro e v1 ⟨rfl, hc1⟩
  have hm1 := hl4.trans hc1
  go_wp2_with fail
  refine (HSS.out _ (hw.later (hm1.alloc _))).mono ?_
  rintro e v2 ⟨rfl, hc2⟩
  have p0 := cell_at hc2 (p := ⟨v1.heap.size, 0, none⟩) (v := .int .i64 xt) (by go_cell) (by simp <;> omega)
  have p1 := cell_at hc2 (p := ⟨v1.heap.size, 1, none⟩) (v := .int .u32 xg) (by go_cell) (by simp <;> omega)
  have p2 := cell_at hc2 (p := ⟨v1.heap.size, 2, none⟩) (v := .int .u8 xr) (by go_cell) (by simp <;> omega)
  have hm2 := (hm1.alloc _).trans hc2
  clear hc2 hc1
  go_wp2_with fail
  refine (Right_is _ _ _ true HXO.out _).mono ?_
  rintro e v3 ⟨rfl, hc3⟩
  go_wp2_with fail
  go_ret
  exact ⟨rfl, hm2.trans hc3⟩

set_option maxRecDepth 100000 in
set_option maxHeartbeats 6400000 in
theorem HandleBack_badY (t g r t' g' r' : Int) (s : ByteArray) (n1 : ¬ 300 < s.size) (xt xg xr : Int) (xo : okH xt xg xr = true) (hR : (∀ w, Laid w → Calls Tryd.prog 13 #[.string s] w fun e w' => e = .returned (.tuple #[.agg #[.int .i64 xt, .int .u32 xg, .int .u8 xr], .int .i64 0]) ∧ Later w w')) (hS : ∀ w, Laid w → Calls Tryd.prog 11 #[.agg #[.int .i64 xt, .int .u32 xg, .int .u8 xr]] w fun e w' => e = .returned (.tuple #[.string s, .int .i64 0]) ∧ Later w w') (ho : okH t g r = true) (T : ByteArray) (hSa : ∀ w, Laid w → Calls Tryd.prog 11 #[.agg #[.int .i64 t, .int .u32 g, .int .u8 r]] w fun e w' => e = .returned (.tuple #[.string T, .int .i64 0]) ∧ Later w w') (hRa : ∀ w, Laid w → Calls Tryd.prog 13 #[.string T] w fun e w' => e = .returned (.tuple #[.agg #[.int .i64 t, .int .u32 g, .int .u8 r], .int .i64 0]) ∧ Later w w') (S : ByteArray) (hSb : ∀ w, Laid w → Calls Tryd.prog 11 #[.agg #[.int .i64 t', .int .u32 g', .int .u8 r']] w fun e w' => e = .returned (.tuple #[.string S, .int .i64 4]) ∧ Later w w') (w : World) (hw : Laid w) :
    Calls Tryd.prog 4 #[.agg #[.int .i64 t, .int .u32 g, .int .u8 r], .agg #[.int .i64 t', .int .u32 g', .int .u8 r'], .string s] w fun e w' => e = .returned (.bool true) ∧ Later w w' := by
  have HR := Lib.hid hR
  have HSS := Lib.hid hS
  have HXO := Lib.hid xo
  clear hR hS xo
  have HO := Lib.hid ho
  have HSA := Lib.hid hSa
  have HRA := Lib.hid hRa
  have HSB := Lib.hid hSb
  clear ho hSa hRa hSb
  go_enter Tryd.func4, Tryd.ntmps4
  go_wp2_with fail
  refine (awake_is _ (hw.later (((Later.refl w).alloc _).alloc _))).mono ?_
  rintro e w1 ⟨rfl, hb1⟩
  have k00 := cell_at hb1 (p := ⟨w.heap.size, 0, none⟩) (v := .int .i64 t) (by go_cell) (by simp <;> omega)
  have k01 := cell_at hb1 (p := ⟨w.heap.size, 1, none⟩) (v := .int .u32 g) (by go_cell) (by simp <;> omega)
  have k02 := cell_at hb1 (p := ⟨w.heap.size, 2, none⟩) (v := .int .u8 r) (by go_cell) (by simp <;> omega)
  have k10 := cell_at hb1 (p := ⟨w.heap.size + 1, 0, none⟩) (v := .int .i64 t') (by go_cell) (by simp <;> omega)
  have k11 := cell_at hb1 (p := ⟨w.heap.size + 1, 1, none⟩) (v := .int .u32 g') (by go_cell) (by simp <;> omega)
  have k12 := cell_at hb1 (p := ⟨w.heap.size + 1, 2, none⟩) (v := .int .u8 r') (by go_cell) (by simp <;> omega)
  have hl1 : Later w w1 := (((Later.refl w).alloc _).alloc _).trans hb1
  have hs1 : w.heap.size + 1 < w1.heap.size := Nat.lt_of_lt_of_le (by simp) hb1.size
  clear hb1
  go_wp2_with fail
  refine (HSA.out _ (hw.later hl1)).mono ?_
  rintro e w2 ⟨rfl, hb2⟩
  have k00 := cell_at hb2 k00 (by simp <;> omega)
  have k01 := cell_at hb2 k01 (by simp <;> omega)
  have k02 := cell_at hb2 k02 (by simp <;> omega)
  have k10 := cell_at hb2 k10 (by simp <;> omega)
  have k11 := cell_at hb2 k11 (by simp <;> omega)
  have k12 := cell_at hb2 k12 (by simp <;> omega)
  have hl2 := hl1.trans hb2
  have hs2 := Nat.lt_of_lt_of_le hs1 hb2.size
  clear hb2 hl1 hs1
  go_wp2_with fail
  refine (HSB.out _ (hw.later hl2)).mono ?_
  rintro e w3 ⟨rfl, hb3⟩
  have k00 := cell_at hb3 k00 (by simp <;> omega)
  have k01 := cell_at hb3 k01 (by simp <;> omega)
  have k02 := cell_at hb3 k02 (by simp <;> omega)
  have k10 := cell_at hb3 k10 (by simp <;> omega)
  have k11 := cell_at hb3 k11 (by simp <;> omega)
  have k12 := cell_at hb3 k12 (by simp <;> omega)
  have hl3 := hl2.trans hb3
  have hs3 := Nat.lt_of_lt_of_le hs2 hb3.size
  clear hb3 hl2 hs2
  go_wp2_with fail
  refine (Right_is _ _ _ _ HO.out _).mono ?_
  rintro e w4 ⟨rfl, hb4⟩
  have k00 := cell_at hb4 k00 (by simp <;> omega)
  have k01 := cell_at hb4 k01 (by simp <;> omega)
  have k02 := cell_at hb4 k02 (by simp <;> omega)
  have k10 := cell_at hb4 k10 (by simp <;> omega)
  have k11 := cell_at hb4 k11 (by simp <;> omega)
  have k12 := cell_at hb4 k12 (by simp <;> omega)
  have hl4 := hl3.trans hb4
  have hs4 := Nat.lt_of_lt_of_le hs3 hb4.size
  clear hb4 hl3 hs3
  go_wp2_with fail
  refine (HRA.out _ (hw.later hl4)).mono ?_
  rintro e w5 ⟨rfl, hb5⟩
  have k00 := cell_at hb5 k00 (by simp <;> omega)
  have k01 := cell_at hb5 k01 (by simp <;> omega)
  have k02 := cell_at hb5 k02 (by simp <;> omega)
  have k10 := cell_at hb5 k10 (by simp <;> omega)
  have k11 := cell_at hb5 k11 (by simp <;> omega)
  have k12 := cell_at hb5 k12 (by simp <;> omega)
  have hl5 := (hl4.trans hb5).alloc (.cells #[.int .i64 t, .int .u32 g, .int .u8 r] 27)
  have hs5 := Nat.lt_of_lt_of_le hs4 hb5.size
  have ht5 : w.heap.size < w5.heap.size := by omega
  clear hb5 hl4 hs4
  go_wp2_with fail
  refine (HR.out _ (hw.later hl5)).mono ?_
  rintro e v1 ⟨rfl, hc1⟩
  have hm1 := hl5.trans hc1
  go_wp2_with fail
  refine (HSS.out _ (hw.later (hm1.alloc _))).mono ?_
  rintro e v2 ⟨rfl, hc2⟩
  have p0 := cell_at hc2 (p := ⟨v1.heap.size, 0, none⟩) (v := .int .i64 xt) (by go_cell) (by simp <;> omega)
  have p1 := cell_at hc2 (p := ⟨v1.heap.size, 1, none⟩) (v := .int .u32 xg) (by go_cell) (by simp <;> omega)
  have p2 := cell_at hc2 (p := ⟨v1.heap.size, 2, none⟩) (v := .int .u8 xr) (by go_cell) (by simp <;> omega)
  have hm2 := (hm1.alloc _).trans hc2
  clear hc2 hc1
  go_wp2_with fail
  refine (Right_is _ _ _ true HXO.out _).mono ?_
  rintro e v3 ⟨rfl, hc3⟩
  go_wp2_with fail
  go_ret
  exact ⟨rfl, hm2.trans hc3⟩

set_option maxRecDepth 100000 in
set_option maxHeartbeats 6400000 in
theorem HandleBack_tY (t g r t' g' r' : Int) (s : ByteArray) (n1 : ¬ 300 < s.size) (xt xg xr : Int) (xo : okH xt xg xr = true) (hR : (∀ w, Laid w → Calls Tryd.prog 13 #[.string s] w fun e w' => e = .returned (.tuple #[.agg #[.int .i64 xt, .int .u32 xg, .int .u8 xr], .int .i64 0]) ∧ Later w w')) (hS : ∀ w, Laid w → Calls Tryd.prog 11 #[.agg #[.int .i64 xt, .int .u32 xg, .int .u8 xr]] w fun e w' => e = .returned (.tuple #[.string s, .int .i64 0]) ∧ Later w w') (ho : okH t g r = true) (T : ByteArray) (hSa : ∀ w, Laid w → Calls Tryd.prog 11 #[.agg #[.int .i64 t, .int .u32 g, .int .u8 r]] w fun e w' => e = .returned (.tuple #[.string T, .int .i64 0]) ∧ Later w w') (hRa : ∀ w, Laid w → Calls Tryd.prog 13 #[.string T] w fun e w' => e = .returned (.tuple #[.agg #[.int .i64 t, .int .u32 g, .int .u8 r], .int .i64 0]) ∧ Later w w') (S : ByteArray) (hSb : ∀ w, Laid w → Calls Tryd.prog 11 #[.agg #[.int .i64 t', .int .u32 g', .int .u8 r']] w fun e w' => e = .returned (.tuple #[.string S, .int .i64 0]) ∧ Later w w') (c1 : (t == t') = false) (c4 : (T.toList == S.toList) = false) (w : World) (hw : Laid w) :
    Calls Tryd.prog 4 #[.agg #[.int .i64 t, .int .u32 g, .int .u8 r], .agg #[.int .i64 t', .int .u32 g', .int .u8 r'], .string s] w fun e w' => e = .returned (.bool true) ∧ Later w w' := by
  have HR := Lib.hid hR
  have HSS := Lib.hid hS
  have HXO := Lib.hid xo
  clear hR hS xo
  have HO := Lib.hid ho
  have HSA := Lib.hid hSa
  have HRA := Lib.hid hRa
  have HSB := Lib.hid hSb
  clear ho hSa hRa hSb
  go_enter Tryd.func4, Tryd.ntmps4
  go_wp2_with fail
  refine (awake_is _ (hw.later (((Later.refl w).alloc _).alloc _))).mono ?_
  rintro e w1 ⟨rfl, hb1⟩
  have k00 := cell_at hb1 (p := ⟨w.heap.size, 0, none⟩) (v := .int .i64 t) (by go_cell) (by simp <;> omega)
  have k01 := cell_at hb1 (p := ⟨w.heap.size, 1, none⟩) (v := .int .u32 g) (by go_cell) (by simp <;> omega)
  have k02 := cell_at hb1 (p := ⟨w.heap.size, 2, none⟩) (v := .int .u8 r) (by go_cell) (by simp <;> omega)
  have k10 := cell_at hb1 (p := ⟨w.heap.size + 1, 0, none⟩) (v := .int .i64 t') (by go_cell) (by simp <;> omega)
  have k11 := cell_at hb1 (p := ⟨w.heap.size + 1, 1, none⟩) (v := .int .u32 g') (by go_cell) (by simp <;> omega)
  have k12 := cell_at hb1 (p := ⟨w.heap.size + 1, 2, none⟩) (v := .int .u8 r') (by go_cell) (by simp <;> omega)
  have hl1 : Later w w1 := (((Later.refl w).alloc _).alloc _).trans hb1
  have hs1 : w.heap.size + 1 < w1.heap.size := Nat.lt_of_lt_of_le (by simp) hb1.size
  clear hb1
  go_wp2_with fail
  refine (HSA.out _ (hw.later hl1)).mono ?_
  rintro e w2 ⟨rfl, hb2⟩
  have k00 := cell_at hb2 k00 (by simp <;> omega)
  have k01 := cell_at hb2 k01 (by simp <;> omega)
  have k02 := cell_at hb2 k02 (by simp <;> omega)
  have k10 := cell_at hb2 k10 (by simp <;> omega)
  have k11 := cell_at hb2 k11 (by simp <;> omega)
  have k12 := cell_at hb2 k12 (by simp <;> omega)
  have hl2 := hl1.trans hb2
  have hs2 := Nat.lt_of_lt_of_le hs1 hb2.size
  clear hb2 hl1 hs1
  go_wp2_with fail
  refine (HSB.out _ (hw.later hl2)).mono ?_
  rintro e w3 ⟨rfl, hb3⟩
  have k00 := cell_at hb3 k00 (by simp <;> omega)
  have k01 := cell_at hb3 k01 (by simp <;> omega)
  have k02 := cell_at hb3 k02 (by simp <;> omega)
  have k10 := cell_at hb3 k10 (by simp <;> omega)
  have k11 := cell_at hb3 k11 (by simp <;> omega)
  have k12 := cell_at hb3 k12 (by simp <;> omega)
  have hl3 := hl2.trans hb3
  have hs3 := Nat.lt_of_lt_of_le hs2 hb3.size
  clear hb3 hl2 hs2
  go_wp2_with fail
  refine (Right_is _ _ _ _ HO.out _).mono ?_
  rintro e w4 ⟨rfl, hb4⟩
  have k00 := cell_at hb4 k00 (by simp <;> omega)
  have k01 := cell_at hb4 k01 (by simp <;> omega)
  have k02 := cell_at hb4 k02 (by simp <;> omega)
  have k10 := cell_at hb4 k10 (by simp <;> omega)
  have k11 := cell_at hb4 k11 (by simp <;> omega)
  have k12 := cell_at hb4 k12 (by simp <;> omega)
  have hl4 := hl3.trans hb4
  have hs4 := Nat.lt_of_lt_of_le hs3 hb4.size
  clear hb4 hl3 hs3
  go_wp2_with fail
  refine (HRA.out _ (hw.later hl4)).mono ?_
  rintro e w5 ⟨rfl, hb5⟩
  have k00 := cell_at hb5 k00 (by simp <;> omega)
  have k01 := cell_at hb5 k01 (by simp <;> omega)
  have k02 := cell_at hb5 k02 (by simp <;> omega)
  have k10 := cell_at hb5 k10 (by simp <;> omega)
  have k11 := cell_at hb5 k11 (by simp <;> omega)
  have k12 := cell_at hb5 k12 (by simp <;> omega)
  have hl5 := (hl4.trans hb5).alloc (.cells #[.int .i64 t, .int .u32 g, .int .u8 r] 27)
  have hs5 := Nat.lt_of_lt_of_le hs4 hb5.size
  have ht5 : w.heap.size < w5.heap.size := by omega
  clear hb5 hl4 hs4
  go_wp2_with fail
  refine (HR.out _ (hw.later hl5)).mono ?_
  rintro e v1 ⟨rfl, hc1⟩
  have hm1 := hl5.trans hc1
  go_wp2_with fail
  refine (HSS.out _ (hw.later (hm1.alloc _))).mono ?_
  rintro e v2 ⟨rfl, hc2⟩
  have p0 := cell_at hc2 (p := ⟨v1.heap.size, 0, none⟩) (v := .int .i64 xt) (by go_cell) (by simp <;> omega)
  have p1 := cell_at hc2 (p := ⟨v1.heap.size, 1, none⟩) (v := .int .u32 xg) (by go_cell) (by simp <;> omega)
  have p2 := cell_at hc2 (p := ⟨v1.heap.size, 2, none⟩) (v := .int .u8 xr) (by go_cell) (by simp <;> omega)
  have hm2 := (hm1.alloc _).trans hc2
  clear hc2 hc1
  go_wp2_with fail
  refine (Right_is _ _ _ true HXO.out _).mono ?_
  rintro e v3 ⟨rfl, hc3⟩
  go_wp2_with fail
  go_ret
  exact ⟨rfl, hm2.trans hc3⟩

set_option maxRecDepth 100000 in
set_option maxHeartbeats 6400000 in
theorem HandleBack_gY (t g r t' g' r' : Int) (s : ByteArray) (n1 : ¬ 300 < s.size) (xt xg xr : Int) (xo : okH xt xg xr = true) (hR : (∀ w, Laid w → Calls Tryd.prog 13 #[.string s] w fun e w' => e = .returned (.tuple #[.agg #[.int .i64 xt, .int .u32 xg, .int .u8 xr], .int .i64 0]) ∧ Later w w')) (hS : ∀ w, Laid w → Calls Tryd.prog 11 #[.agg #[.int .i64 xt, .int .u32 xg, .int .u8 xr]] w fun e w' => e = .returned (.tuple #[.string s, .int .i64 0]) ∧ Later w w') (ho : okH t g r = true) (T : ByteArray) (hSa : ∀ w, Laid w → Calls Tryd.prog 11 #[.agg #[.int .i64 t, .int .u32 g, .int .u8 r]] w fun e w' => e = .returned (.tuple #[.string T, .int .i64 0]) ∧ Later w w') (hRa : ∀ w, Laid w → Calls Tryd.prog 13 #[.string T] w fun e w' => e = .returned (.tuple #[.agg #[.int .i64 t, .int .u32 g, .int .u8 r], .int .i64 0]) ∧ Later w w') (S : ByteArray) (hSb : ∀ w, Laid w → Calls Tryd.prog 11 #[.agg #[.int .i64 t', .int .u32 g', .int .u8 r']] w fun e w' => e = .returned (.tuple #[.string S, .int .i64 0]) ∧ Later w w') (c1 : (t == t') = true) (c2 : (g == g') = false) (c4 : (T.toList == S.toList) = false) (w : World) (hw : Laid w) :
    Calls Tryd.prog 4 #[.agg #[.int .i64 t, .int .u32 g, .int .u8 r], .agg #[.int .i64 t', .int .u32 g', .int .u8 r'], .string s] w fun e w' => e = .returned (.bool true) ∧ Later w w' := by
  have HR := Lib.hid hR
  have HSS := Lib.hid hS
  have HXO := Lib.hid xo
  clear hR hS xo
  have HO := Lib.hid ho
  have HSA := Lib.hid hSa
  have HRA := Lib.hid hRa
  have HSB := Lib.hid hSb
  clear ho hSa hRa hSb
  go_enter Tryd.func4, Tryd.ntmps4
  go_wp2_with fail
  refine (awake_is _ (hw.later (((Later.refl w).alloc _).alloc _))).mono ?_
  rintro e w1 ⟨rfl, hb1⟩
  have k00 := cell_at hb1 (p := ⟨w.heap.size, 0, none⟩) (v := .int .i64 t) (by go_cell) (by simp <;> omega)
  have k01 := cell_at hb1 (p := ⟨w.heap.size, 1, none⟩) (v := .int .u32 g) (by go_cell) (by simp <;> omega)
  have k02 := cell_at hb1 (p := ⟨w.heap.size, 2, none⟩) (v := .int .u8 r) (by go_cell) (by simp <;> omega)
  have k10 := cell_at hb1 (p := ⟨w.heap.size + 1, 0, none⟩) (v := .int .i64 t') (by go_cell) (by simp <;> omega)
  have k11 := cell_at hb1 (p := ⟨w.heap.size + 1, 1, none⟩) (v := .int .u32 g') (by go_cell) (by simp <;> omega)
  have k12 := cell_at hb1 (p := ⟨w.heap.size + 1, 2, none⟩) (v := .int .u8 r') (by go_cell) (by simp <;> omega)
  have hl1 : Later w w1 := (((Later.refl w).alloc _).alloc _).trans hb1
  have hs1 : w.heap.size + 1 < w1.heap.size := Nat.lt_of_lt_of_le (by simp) hb1.size
  clear hb1
  go_wp2_with fail
  refine (HSA.out _ (hw.later hl1)).mono ?_
  rintro e w2 ⟨rfl, hb2⟩
  have k00 := cell_at hb2 k00 (by simp <;> omega)
  have k01 := cell_at hb2 k01 (by simp <;> omega)
  have k02 := cell_at hb2 k02 (by simp <;> omega)
  have k10 := cell_at hb2 k10 (by simp <;> omega)
  have k11 := cell_at hb2 k11 (by simp <;> omega)
  have k12 := cell_at hb2 k12 (by simp <;> omega)
  have hl2 := hl1.trans hb2
  have hs2 := Nat.lt_of_lt_of_le hs1 hb2.size
  clear hb2 hl1 hs1
  go_wp2_with fail
  refine (HSB.out _ (hw.later hl2)).mono ?_
  rintro e w3 ⟨rfl, hb3⟩
  have k00 := cell_at hb3 k00 (by simp <;> omega)
  have k01 := cell_at hb3 k01 (by simp <;> omega)
  have k02 := cell_at hb3 k02 (by simp <;> omega)
  have k10 := cell_at hb3 k10 (by simp <;> omega)
  have k11 := cell_at hb3 k11 (by simp <;> omega)
  have k12 := cell_at hb3 k12 (by simp <;> omega)
  have hl3 := hl2.trans hb3
  have hs3 := Nat.lt_of_lt_of_le hs2 hb3.size
  clear hb3 hl2 hs2
  go_wp2_with fail
  refine (Right_is _ _ _ _ HO.out _).mono ?_
  rintro e w4 ⟨rfl, hb4⟩
  have k00 := cell_at hb4 k00 (by simp <;> omega)
  have k01 := cell_at hb4 k01 (by simp <;> omega)
  have k02 := cell_at hb4 k02 (by simp <;> omega)
  have k10 := cell_at hb4 k10 (by simp <;> omega)
  have k11 := cell_at hb4 k11 (by simp <;> omega)
  have k12 := cell_at hb4 k12 (by simp <;> omega)
  have hl4 := hl3.trans hb4
  have hs4 := Nat.lt_of_lt_of_le hs3 hb4.size
  clear hb4 hl3 hs3
  go_wp2_with fail
  refine (HRA.out _ (hw.later hl4)).mono ?_
  rintro e w5 ⟨rfl, hb5⟩
  have k00 := cell_at hb5 k00 (by simp <;> omega)
  have k01 := cell_at hb5 k01 (by simp <;> omega)
  have k02 := cell_at hb5 k02 (by simp <;> omega)
  have k10 := cell_at hb5 k10 (by simp <;> omega)
  have k11 := cell_at hb5 k11 (by simp <;> omega)
  have k12 := cell_at hb5 k12 (by simp <;> omega)
  have hl5 := (hl4.trans hb5).alloc (.cells #[.int .i64 t, .int .u32 g, .int .u8 r] 27)
  have hs5 := Nat.lt_of_lt_of_le hs4 hb5.size
  have ht5 : w.heap.size < w5.heap.size := by omega
  clear hb5 hl4 hs4
  go_wp2_with fail
  refine (HR.out _ (hw.later hl5)).mono ?_
  rintro e v1 ⟨rfl, hc1⟩
  have hm1 := hl5.trans hc1
  go_wp2_with fail
  refine (HSS.out _ (hw.later (hm1.alloc _))).mono ?_
  rintro e v2 ⟨rfl, hc2⟩
  have p0 := cell_at hc2 (p := ⟨v1.heap.size, 0, none⟩) (v := .int .i64 xt) (by go_cell) (by simp <;> omega)
  have p1 := cell_at hc2 (p := ⟨v1.heap.size, 1, none⟩) (v := .int .u32 xg) (by go_cell) (by simp <;> omega)
  have p2 := cell_at hc2 (p := ⟨v1.heap.size, 2, none⟩) (v := .int .u8 xr) (by go_cell) (by simp <;> omega)
  have hm2 := (hm1.alloc _).trans hc2
  clear hc2 hc1
  go_wp2_with fail
  refine (Right_is _ _ _ true HXO.out _).mono ?_
  rintro e v3 ⟨rfl, hc3⟩
  go_wp2_with fail
  go_ret
  exact ⟨rfl, hm2.trans hc3⟩

set_option maxRecDepth 100000 in
set_option maxHeartbeats 6400000 in
theorem HandleBack_rY (t g r t' g' r' : Int) (s : ByteArray) (n1 : ¬ 300 < s.size) (xt xg xr : Int) (xo : okH xt xg xr = true) (hR : (∀ w, Laid w → Calls Tryd.prog 13 #[.string s] w fun e w' => e = .returned (.tuple #[.agg #[.int .i64 xt, .int .u32 xg, .int .u8 xr], .int .i64 0]) ∧ Later w w')) (hS : ∀ w, Laid w → Calls Tryd.prog 11 #[.agg #[.int .i64 xt, .int .u32 xg, .int .u8 xr]] w fun e w' => e = .returned (.tuple #[.string s, .int .i64 0]) ∧ Later w w') (ho : okH t g r = true) (T : ByteArray) (hSa : ∀ w, Laid w → Calls Tryd.prog 11 #[.agg #[.int .i64 t, .int .u32 g, .int .u8 r]] w fun e w' => e = .returned (.tuple #[.string T, .int .i64 0]) ∧ Later w w') (hRa : ∀ w, Laid w → Calls Tryd.prog 13 #[.string T] w fun e w' => e = .returned (.tuple #[.agg #[.int .i64 t, .int .u32 g, .int .u8 r], .int .i64 0]) ∧ Later w w') (S : ByteArray) (hSb : ∀ w, Laid w → Calls Tryd.prog 11 #[.agg #[.int .i64 t', .int .u32 g', .int .u8 r']] w fun e w' => e = .returned (.tuple #[.string S, .int .i64 0]) ∧ Later w w') (c1 : (t == t') = true) (c2 : (g == g') = true) (c3 : (r == r') = false) (c4 : (T.toList == S.toList) = false) (w : World) (hw : Laid w) :
    Calls Tryd.prog 4 #[.agg #[.int .i64 t, .int .u32 g, .int .u8 r], .agg #[.int .i64 t', .int .u32 g', .int .u8 r'], .string s] w fun e w' => e = .returned (.bool true) ∧ Later w w' := by
  have HR := Lib.hid hR
  have HSS := Lib.hid hS
  have HXO := Lib.hid xo
  clear hR hS xo
  have HO := Lib.hid ho
  have HSA := Lib.hid hSa
  have HRA := Lib.hid hRa
  have HSB := Lib.hid hSb
  clear ho hSa hRa hSb
  go_enter Tryd.func4, Tryd.ntmps4
  go_wp2_with fail
  refine (awake_is _ (hw.later (((Later.refl w).alloc _).alloc _))).mono ?_
  rintro e w1 ⟨rfl, hb1⟩
  have k00 := cell_at hb1 (p := ⟨w.heap.size, 0, none⟩) (v := .int .i64 t) (by go_cell) (by simp <;> omega)
  have k01 := cell_at hb1 (p := ⟨w.heap.size, 1, none⟩) (v := .int .u32 g) (by go_cell) (by simp <;> omega)
  have k02 := cell_at hb1 (p := ⟨w.heap.size, 2, none⟩) (v := .int .u8 r) (by go_cell) (by simp <;> omega)
  have k10 := cell_at hb1 (p := ⟨w.heap.size + 1, 0, none⟩) (v := .int .i64 t') (by go_cell) (by simp <;> omega)
  have k11 := cell_at hb1 (p := ⟨w.heap.size + 1, 1, none⟩) (v := .int .u32 g') (by go_cell) (by simp <;> omega)
  have k12 := cell_at hb1 (p := ⟨w.heap.size + 1, 2, none⟩) (v := .int .u8 r') (by go_cell) (by simp <;> omega)
  have hl1 : Later w w1 := (((Later.refl w).alloc _).alloc _).trans hb1
  have hs1 : w.heap.size + 1 < w1.heap.size := Nat.lt_of_lt_of_le (by simp) hb1.size
  clear hb1
  go_wp2_with fail
  refine (HSA.out _ (hw.later hl1)).mono ?_
  rintro e w2 ⟨rfl, hb2⟩
  have k00 := cell_at hb2 k00 (by simp <;> omega)
  have k01 := cell_at hb2 k01 (by simp <;> omega)
  have k02 := cell_at hb2 k02 (by simp <;> omega)
  have k10 := cell_at hb2 k10 (by simp <;> omega)
  have k11 := cell_at hb2 k11 (by simp <;> omega)
  have k12 := cell_at hb2 k12 (by simp <;> omega)
  have hl2 := hl1.trans hb2
  have hs2 := Nat.lt_of_lt_of_le hs1 hb2.size
  clear hb2 hl1 hs1
  go_wp2_with fail
  refine (HSB.out _ (hw.later hl2)).mono ?_
  rintro e w3 ⟨rfl, hb3⟩
  have k00 := cell_at hb3 k00 (by simp <;> omega)
  have k01 := cell_at hb3 k01 (by simp <;> omega)
  have k02 := cell_at hb3 k02 (by simp <;> omega)
  have k10 := cell_at hb3 k10 (by simp <;> omega)
  have k11 := cell_at hb3 k11 (by simp <;> omega)
  have k12 := cell_at hb3 k12 (by simp <;> omega)
  have hl3 := hl2.trans hb3
  have hs3 := Nat.lt_of_lt_of_le hs2 hb3.size
  clear hb3 hl2 hs2
  go_wp2_with fail
  refine (Right_is _ _ _ _ HO.out _).mono ?_
  rintro e w4 ⟨rfl, hb4⟩
  have k00 := cell_at hb4 k00 (by simp <;> omega)
  have k01 := cell_at hb4 k01 (by simp <;> omega)
  have k02 := cell_at hb4 k02 (by simp <;> omega)
  have k10 := cell_at hb4 k10 (by simp <;> omega)
  have k11 := cell_at hb4 k11 (by simp <;> omega)
  have k12 := cell_at hb4 k12 (by simp <;> omega)
  have hl4 := hl3.trans hb4
  have hs4 := Nat.lt_of_lt_of_le hs3 hb4.size
  clear hb4 hl3 hs3
  go_wp2_with fail
  refine (HRA.out _ (hw.later hl4)).mono ?_
  rintro e w5 ⟨rfl, hb5⟩
  have k00 := cell_at hb5 k00 (by simp <;> omega)
  have k01 := cell_at hb5 k01 (by simp <;> omega)
  have k02 := cell_at hb5 k02 (by simp <;> omega)
  have k10 := cell_at hb5 k10 (by simp <;> omega)
  have k11 := cell_at hb5 k11 (by simp <;> omega)
  have k12 := cell_at hb5 k12 (by simp <;> omega)
  have hl5 := (hl4.trans hb5).alloc (.cells #[.int .i64 t, .int .u32 g, .int .u8 r] 27)
  have hs5 := Nat.lt_of_lt_of_le hs4 hb5.size
  have ht5 : w.heap.size < w5.heap.size := by omega
  clear hb5 hl4 hs4
  go_wp2_with fail
  refine (HR.out _ (hw.later hl5)).mono ?_
  rintro e v1 ⟨rfl, hc1⟩
  have hm1 := hl5.trans hc1
  go_wp2_with fail
  refine (HSS.out _ (hw.later (hm1.alloc _))).mono ?_
  rintro e v2 ⟨rfl, hc2⟩
  have p0 := cell_at hc2 (p := ⟨v1.heap.size, 0, none⟩) (v := .int .i64 xt) (by go_cell) (by simp <;> omega)
  have p1 := cell_at hc2 (p := ⟨v1.heap.size, 1, none⟩) (v := .int .u32 xg) (by go_cell) (by simp <;> omega)
  have p2 := cell_at hc2 (p := ⟨v1.heap.size, 2, none⟩) (v := .int .u8 xr) (by go_cell) (by simp <;> omega)
  have hm2 := (hm1.alloc _).trans hc2
  clear hc2 hc1
  go_wp2_with fail
  refine (Right_is _ _ _ true HXO.out _).mono ?_
  rintro e v3 ⟨rfl, hc3⟩
  go_wp2_with fail
  go_ret
  exact ⟨rfl, hm2.trans hc3⟩

set_option maxRecDepth 100000 in
set_option maxHeartbeats 6400000 in
theorem HandleBack_allY (t g r t' g' r' : Int) (s : ByteArray) (n1 : ¬ 300 < s.size) (xt xg xr : Int) (xo : okH xt xg xr = true) (hR : (∀ w, Laid w → Calls Tryd.prog 13 #[.string s] w fun e w' => e = .returned (.tuple #[.agg #[.int .i64 xt, .int .u32 xg, .int .u8 xr], .int .i64 0]) ∧ Later w w')) (hS : ∀ w, Laid w → Calls Tryd.prog 11 #[.agg #[.int .i64 xt, .int .u32 xg, .int .u8 xr]] w fun e w' => e = .returned (.tuple #[.string s, .int .i64 0]) ∧ Later w w') (ho : okH t g r = true) (T : ByteArray) (hSa : ∀ w, Laid w → Calls Tryd.prog 11 #[.agg #[.int .i64 t, .int .u32 g, .int .u8 r]] w fun e w' => e = .returned (.tuple #[.string T, .int .i64 0]) ∧ Later w w') (hRa : ∀ w, Laid w → Calls Tryd.prog 13 #[.string T] w fun e w' => e = .returned (.tuple #[.agg #[.int .i64 t, .int .u32 g, .int .u8 r], .int .i64 0]) ∧ Later w w') (S : ByteArray) (hSb : ∀ w, Laid w → Calls Tryd.prog 11 #[.agg #[.int .i64 t', .int .u32 g', .int .u8 r']] w fun e w' => e = .returned (.tuple #[.string S, .int .i64 0]) ∧ Later w w') (c1 : (t == t') = true) (c2 : (g == g') = true) (c3 : (r == r') = true) (c4 : (T.toList == S.toList) = true) (w : World) (hw : Laid w) :
    Calls Tryd.prog 4 #[.agg #[.int .i64 t, .int .u32 g, .int .u8 r], .agg #[.int .i64 t', .int .u32 g', .int .u8 r'], .string s] w fun e w' => e = .returned (.bool true) ∧ Later w w' := by
  have HR := Lib.hid hR
  have HSS := Lib.hid hS
  have HXO := Lib.hid xo
  clear hR hS xo
  have HO := Lib.hid ho
  have HSA := Lib.hid hSa
  have HRA := Lib.hid hRa
  have HSB := Lib.hid hSb
  clear ho hSa hRa hSb
  go_enter Tryd.func4, Tryd.ntmps4
  go_wp2_with fail
  refine (awake_is _ (hw.later (((Later.refl w).alloc _).alloc _))).mono ?_
  rintro e w1 ⟨rfl, hb1⟩
  have k00 := cell_at hb1 (p := ⟨w.heap.size, 0, none⟩) (v := .int .i64 t) (by go_cell) (by simp <;> omega)
  have k01 := cell_at hb1 (p := ⟨w.heap.size, 1, none⟩) (v := .int .u32 g) (by go_cell) (by simp <;> omega)
  have k02 := cell_at hb1 (p := ⟨w.heap.size, 2, none⟩) (v := .int .u8 r) (by go_cell) (by simp <;> omega)
  have k10 := cell_at hb1 (p := ⟨w.heap.size + 1, 0, none⟩) (v := .int .i64 t') (by go_cell) (by simp <;> omega)
  have k11 := cell_at hb1 (p := ⟨w.heap.size + 1, 1, none⟩) (v := .int .u32 g') (by go_cell) (by simp <;> omega)
  have k12 := cell_at hb1 (p := ⟨w.heap.size + 1, 2, none⟩) (v := .int .u8 r') (by go_cell) (by simp <;> omega)
  have hl1 : Later w w1 := (((Later.refl w).alloc _).alloc _).trans hb1
  have hs1 : w.heap.size + 1 < w1.heap.size := Nat.lt_of_lt_of_le (by simp) hb1.size
  clear hb1
  go_wp2_with fail
  refine (HSA.out _ (hw.later hl1)).mono ?_
  rintro e w2 ⟨rfl, hb2⟩
  have k00 := cell_at hb2 k00 (by simp <;> omega)
  have k01 := cell_at hb2 k01 (by simp <;> omega)
  have k02 := cell_at hb2 k02 (by simp <;> omega)
  have k10 := cell_at hb2 k10 (by simp <;> omega)
  have k11 := cell_at hb2 k11 (by simp <;> omega)
  have k12 := cell_at hb2 k12 (by simp <;> omega)
  have hl2 := hl1.trans hb2
  have hs2 := Nat.lt_of_lt_of_le hs1 hb2.size
  clear hb2 hl1 hs1
  go_wp2_with fail
  refine (HSB.out _ (hw.later hl2)).mono ?_
  rintro e w3 ⟨rfl, hb3⟩
  have k00 := cell_at hb3 k00 (by simp <;> omega)
  have k01 := cell_at hb3 k01 (by simp <;> omega)
  have k02 := cell_at hb3 k02 (by simp <;> omega)
  have k10 := cell_at hb3 k10 (by simp <;> omega)
  have k11 := cell_at hb3 k11 (by simp <;> omega)
  have k12 := cell_at hb3 k12 (by simp <;> omega)
  have hl3 := hl2.trans hb3
  have hs3 := Nat.lt_of_lt_of_le hs2 hb3.size
  clear hb3 hl2 hs2
  go_wp2_with fail
  refine (Right_is _ _ _ _ HO.out _).mono ?_
  rintro e w4 ⟨rfl, hb4⟩
  have k00 := cell_at hb4 k00 (by simp <;> omega)
  have k01 := cell_at hb4 k01 (by simp <;> omega)
  have k02 := cell_at hb4 k02 (by simp <;> omega)
  have k10 := cell_at hb4 k10 (by simp <;> omega)
  have k11 := cell_at hb4 k11 (by simp <;> omega)
  have k12 := cell_at hb4 k12 (by simp <;> omega)
  have hl4 := hl3.trans hb4
  have hs4 := Nat.lt_of_lt_of_le hs3 hb4.size
  clear hb4 hl3 hs3
  go_wp2_with fail
  refine (HRA.out _ (hw.later hl4)).mono ?_
  rintro e w5 ⟨rfl, hb5⟩
  have k00 := cell_at hb5 k00 (by simp <;> omega)
  have k01 := cell_at hb5 k01 (by simp <;> omega)
  have k02 := cell_at hb5 k02 (by simp <;> omega)
  have k10 := cell_at hb5 k10 (by simp <;> omega)
  have k11 := cell_at hb5 k11 (by simp <;> omega)
  have k12 := cell_at hb5 k12 (by simp <;> omega)
  have hl5 := (hl4.trans hb5).alloc (.cells #[.int .i64 t, .int .u32 g, .int .u8 r] 27)
  have hs5 := Nat.lt_of_lt_of_le hs4 hb5.size
  have ht5 : w.heap.size < w5.heap.size := by omega
  clear hb5 hl4 hs4
  go_wp2_with fail
  refine (HR.out _ (hw.later hl5)).mono ?_
  rintro e v1 ⟨rfl, hc1⟩
  have hm1 := hl5.trans hc1
  go_wp2_with fail
  refine (HSS.out _ (hw.later (hm1.alloc _))).mono ?_
  rintro e v2 ⟨rfl, hc2⟩
  have p0 := cell_at hc2 (p := ⟨v1.heap.size, 0, none⟩) (v := .int .i64 xt) (by go_cell) (by simp <;> omega)
  have p1 := cell_at hc2 (p := ⟨v1.heap.size, 1, none⟩) (v := .int .u32 xg) (by go_cell) (by simp <;> omega)
  have p2 := cell_at hc2 (p := ⟨v1.heap.size, 2, none⟩) (v := .int .u8 xr) (by go_cell) (by simp <;> omega)
  have hm2 := (hm1.alloc _).trans hc2
  clear hc2 hc1
  go_wp2_with fail
  refine (Right_is _ _ _ true HXO.out _).mono ?_
  rintro e v3 ⟨rfl, hc3⟩
  go_wp2_with fail
  go_ret
  exact ⟨rfl, hm2.trans hc3⟩

theorem HandleBack_anyL (t g r t' g' r' : Int) (s : ByteArray) (n1 : 300 < s.size) (g0 : 0 ≤ g) (g1 : g ≤ 4294967295) (s0 : 0 ≤ g') (s1 : g' ≤ 4294967295) (w : World) (hw : Laid w) :
    Calls Tryd.prog 4 #[.agg #[.int .i64 t, .int .u32 g, .int .u8 r], .agg #[.int .i64 t', .int .u32 g', .int .u8 r'], .string s] w fun e w' => e = .returned (.bool true) ∧ Later w w' := by
  cases ho : okH t g r
  · cases ho' : okH t' g' r'
    · exact HandleBack_noL t g r t' g' r' s n1 ho _ _ (fun w _ => Show_no t' g' r' w ho') w hw
    · obtain ⟨S, _, hS, _⟩ := back_yes t' g' r' s0 s1 ho'
      exact HandleBack_noL t g r t' g' r' s n1 ho _ _ hS w hw
  · obtain ⟨T, eT, hT, hR⟩ := back_yes t g r g0 g1 ho
    cases ho' : okH t' g' r'
    · exact HandleBack_badL t g r t' g' r' s n1 ho T hT hR _ (fun w _ => Show_no t' g' r' w ho') w hw
    · obtain ⟨S, eS, hS, _⟩ := back_yes t' g' r' s0 s1 ho'
      have hne : ¬ (t = t' ∧ g = g' ∧ r = r') → (T.toList == S.toList) = false := by
        intro hn
        rw [beq_eq_false_iff_ne]
        intro h
        refine hn (back_inj g0 g1 s0 s1 ho ho' eT eS ?_)
        rw [ByteArray.toList_eq, ByteArray.toList_eq] at h
        exact ByteArray.ext (Array.toList_inj.1 h)
      by_cases c1 : t = t'
      · by_cases c2 : g = g'
        · by_cases c3 : r = r'
          · subst c1 c2 c3
            have : T = S := eT.trans eS.symm
            subst this
            exact HandleBack_allL t g r t g r s n1 ho T hT hR T hS (by simp) (by simp) (by simp) (by simp) w hw
          · exact HandleBack_rL t g r t' g' r' s n1 ho T hT hR S hS (by simp [c1]) (by simp [c2]) (by simp [c3]) (hne (by simp [c3])) w hw
        · exact HandleBack_gL t g r t' g' r' s n1 ho T hT hR S hS (by simp [c1]) (by simp [c2]) (hne (by simp [c2])) w hw
      · exact HandleBack_tL t g r t' g' r' s n1 ho T hT hR S hS (by simp [c1]) (hne (by simp [c1])) w hw

theorem HandleBack_anyN (t g r t' g' r' : Int) (s : ByteArray) (n1 : ¬ 300 < s.size) (hRs : (∀ w, Laid w → Calls Tryd.prog 13 #[.string s] w fun e w' => e = .returned (.tuple #[.agg #[.int .i64 0, .int .u32 0, .int .u8 0], .int .i64 7]) ∧ Later w w')) (g0 : 0 ≤ g) (g1 : g ≤ 4294967295) (s0 : 0 ≤ g') (s1 : g' ≤ 4294967295) (w : World) (hw : Laid w) :
    Calls Tryd.prog 4 #[.agg #[.int .i64 t, .int .u32 g, .int .u8 r], .agg #[.int .i64 t', .int .u32 g', .int .u8 r'], .string s] w fun e w' => e = .returned (.bool true) ∧ Later w w' := by
  cases ho : okH t g r
  · cases ho' : okH t' g' r'
    · exact HandleBack_noN t g r t' g' r' s n1 hRs ho _ _ (fun w _ => Show_no t' g' r' w ho') w hw
    · obtain ⟨S, _, hS, _⟩ := back_yes t' g' r' s0 s1 ho'
      exact HandleBack_noN t g r t' g' r' s n1 hRs ho _ _ hS w hw
  · obtain ⟨T, eT, hT, hR⟩ := back_yes t g r g0 g1 ho
    cases ho' : okH t' g' r'
    · exact HandleBack_badN t g r t' g' r' s n1 hRs ho T hT hR _ (fun w _ => Show_no t' g' r' w ho') w hw
    · obtain ⟨S, eS, hS, _⟩ := back_yes t' g' r' s0 s1 ho'
      have hne : ¬ (t = t' ∧ g = g' ∧ r = r') → (T.toList == S.toList) = false := by
        intro hn
        rw [beq_eq_false_iff_ne]
        intro h
        refine hn (back_inj g0 g1 s0 s1 ho ho' eT eS ?_)
        rw [ByteArray.toList_eq, ByteArray.toList_eq] at h
        exact ByteArray.ext (Array.toList_inj.1 h)
      by_cases c1 : t = t'
      · by_cases c2 : g = g'
        · by_cases c3 : r = r'
          · subst c1 c2 c3
            have : T = S := eT.trans eS.symm
            subst this
            exact HandleBack_allN t g r t g r s n1 hRs ho T hT hR T hS (by simp) (by simp) (by simp) (by simp) w hw
          · exact HandleBack_rN t g r t' g' r' s n1 hRs ho T hT hR S hS (by simp [c1]) (by simp [c2]) (by simp [c3]) (hne (by simp [c3])) w hw
        · exact HandleBack_gN t g r t' g' r' s n1 hRs ho T hT hR S hS (by simp [c1]) (by simp [c2]) (hne (by simp [c2])) w hw
      · exact HandleBack_tN t g r t' g' r' s n1 hRs ho T hT hR S hS (by simp [c1]) (hne (by simp [c1])) w hw

theorem HandleBack_anyY (t g r t' g' r' : Int) (s : ByteArray) (n1 : ¬ 300 < s.size) (xt xg xr : Int) (xo : okH xt xg xr = true) (hRs : (∀ w, Laid w → Calls Tryd.prog 13 #[.string s] w fun e w' => e = .returned (.tuple #[.agg #[.int .i64 xt, .int .u32 xg, .int .u8 xr], .int .i64 0]) ∧ Later w w')) (hSs : ∀ w, Laid w → Calls Tryd.prog 11 #[.agg #[.int .i64 xt, .int .u32 xg, .int .u8 xr]] w fun e w' => e = .returned (.tuple #[.string s, .int .i64 0]) ∧ Later w w') (g0 : 0 ≤ g) (g1 : g ≤ 4294967295) (s0 : 0 ≤ g') (s1 : g' ≤ 4294967295) (w : World) (hw : Laid w) :
    Calls Tryd.prog 4 #[.agg #[.int .i64 t, .int .u32 g, .int .u8 r], .agg #[.int .i64 t', .int .u32 g', .int .u8 r'], .string s] w fun e w' => e = .returned (.bool true) ∧ Later w w' := by
  cases ho : okH t g r
  · cases ho' : okH t' g' r'
    · exact HandleBack_noY t g r t' g' r' s n1 xt xg xr xo hRs hSs ho _ _ (fun w _ => Show_no t' g' r' w ho') w hw
    · obtain ⟨S, _, hS, _⟩ := back_yes t' g' r' s0 s1 ho'
      exact HandleBack_noY t g r t' g' r' s n1 xt xg xr xo hRs hSs ho _ _ hS w hw
  · obtain ⟨T, eT, hT, hR⟩ := back_yes t g r g0 g1 ho
    cases ho' : okH t' g' r'
    · exact HandleBack_badY t g r t' g' r' s n1 xt xg xr xo hRs hSs ho T hT hR _ (fun w _ => Show_no t' g' r' w ho') w hw
    · obtain ⟨S, eS, hS, _⟩ := back_yes t' g' r' s0 s1 ho'
      have hne : ¬ (t = t' ∧ g = g' ∧ r = r') → (T.toList == S.toList) = false := by
        intro hn
        rw [beq_eq_false_iff_ne]
        intro h
        refine hn (back_inj g0 g1 s0 s1 ho ho' eT eS ?_)
        rw [ByteArray.toList_eq, ByteArray.toList_eq] at h
        exact ByteArray.ext (Array.toList_inj.1 h)
      by_cases c1 : t = t'
      · by_cases c2 : g = g'
        · by_cases c3 : r = r'
          · subst c1 c2 c3
            have : T = S := eT.trans eS.symm
            subst this
            exact HandleBack_allY t g r t g r s n1 xt xg xr xo hRs hSs ho T hT hR T hS (by simp) (by simp) (by simp) (by simp) w hw
          · exact HandleBack_rY t g r t' g' r' s n1 xt xg xr xo hRs hSs ho T hT hR S hS (by simp [c1]) (by simp [c2]) (by simp [c3]) (hne (by simp [c3])) w hw
        · exact HandleBack_gY t g r t' g' r' s n1 xt xg xr xo hRs hSs ho T hT hR S hS (by simp [c1]) (by simp [c2]) (hne (by simp [c2])) w hw
      · exact HandleBack_tY t g r t' g' r' s n1 xt xg xr xo hRs hSs ho T hT hR S hS (by simp [c1]) (hne (by simp [c1])) w hw

theorem HandleBack_any (t g r t' g' r' : Int) (s : ByteArray) (g0 : 0 ≤ g) (g1 : g ≤ 4294967295) (s0 : 0 ≤ g') (s1 : g' ≤ 4294967295) (w : World) (hw : Laid w) :
    Calls Tryd.prog 4 #[.agg #[.int .i64 t, .int .u32 g, .int .u8 r], .agg #[.int .i64 t', .int .u32 g', .int .u8 r'], .string s] w fun e w' => e = .returned (.bool true) ∧ Later w w' := by
  by_cases n1 : 300 < s.size
  · exact HandleBack_anyL t g r t' g' r' s n1 g0 g1 s0 s1 w hw
  · rcases back_text s (by omega) with hR | ⟨xt, xg, xr, xo, hR, hS⟩
    · exact HandleBack_anyN t g r t' g' r' s n1 hR g0 g1 s0 s1 w hw
    · exact HandleBack_anyY t g r t' g' r' s n1 xt xg xr xo hR hS g0 g1 s0 s1 w hw
end Go.Proofs.YtpfnccjfmbecfaaDoor
