/-
  The law StatRound, walked. Conditions: the numbers are words of 32 bits; the deeds lie in a slice; the listed variables read as laid.
-/
import Derived.Test.YthohoendjipleaaGreatDoorPz
import Derived.Test.YthohoendjipleaaGreatDoorPf
namespace Go.Proofs.YthohoendjipleaaGreatDoor
open Go.RowKit Go.Sort Go.Lib
set_option linter.unusedSimpArgs false
set_option linter.unusedVariables false

theorem Parse_fmt (x : Nat → Int) (hx : okX x) (a b : Nat) (ha : a ≤ W2) (hb : b ≤ W2) (w : World) (hE : EnvP w) :
    Calls Tryz.prog 12 #[.string ⟨(fmtL x a b).toArray⟩] w fun e w' => e = .returned (.tuple #[statV x a b, .int .i64 0]) ∧ Later w w' := by
  obtain ⟨h1, h2, h3, h4⟩ := pr_fmt x hx a b ha hb
  have hl : (fmtL x a b).length ≤ 100000 := by
    have h5 := preL_len x hx 10
    unfold fmtL loadL
    simp only [List.length_append, hexL_length, List.length_cons, List.length_nil]
    omega
  have h := Parse_is (fmtL x a b) hl w hE
  rw [h1, h3, h4, statV_congr h2] at h
  exact h

set_option maxRecDepth 100000 in
set_option maxHeartbeats 8000000 in
theorem StatRound_is (n : Nat → Int) (hn : ∀ j, 0 ≤ n j ∧ n j ≤ 4294967295) (v : Value) (ds : List Int) (T : ByteArray) (w : World) (hd : Deeds w v ds) (hE : EnvP w) :
    Calls Tryz.prog 5 #[.agg #[.int .u32 (n 0), .int .u32 (n 1), .int .u32 (n 2), .int .u32 (n 3), .int .u32 (n 4), .int .u32 (n 5), .int .u32 (n 6), .int .u32 (n 7), .int .u32 (n 8), .int .u32 (n 9)], v, .string T] w fun e w' => e = .returned (.bool true) ∧ Later w w' := by
  have hx : okX n := fun j => ⟨(hn j).1, by have := (hn j).2; omega⟩
  obtain ⟨a, ha⟩ : ∃ a, ldR (ds.take 100) = a := ⟨_, rfl⟩
  obtain ⟨b, hb⟩ : ∃ b, ldI (ds.take 100) = b := ⟨_, rfl⟩
  have ha2 : a ≤ W2 := by rw [← ha]; exact ldR_le _
  have hb2 : b ≤ W2 := by rw [← hb]; exact ldI_le _
  have hV := fun W (hW : Later w W) => Valid_is n hn v ds W (hd.later hW)
  rw [ha, hb] at hV
  have HV := Lib.hid hV
  have HF := Lib.hid (fun W hW => Format_is n hx a b ha2 hb2 W hW)
  have HP := Lib.hid (fun W hW => Parse_fmt n hx a b ha2 hb2 W hW)
  have hnq := neq_stat n a b ha2 hb2
  have HE := Lib.hid hE
  obtain ⟨F, hF⟩ : ∃ F : ByteArray, (⟨(fmtL n a b).toArray⟩ : ByteArray) = F := ⟨_, rfl⟩
  rw [hF] at HF HP
  unfold statV at HF HP
  clear hn hd ha hb hV hE hF hx ha2 hb2
  go_enter Tryz.func5, Tryz.ntmps5
  go_wp2_with fail
  refine (HV.out _ ((Later.refl w).alloc _)).mono ?_
  rintro e w1 ⟨rfl, hl1⟩
  have HL1 := Lib.hid (((Later.refl w).alloc (.cells #[.int .u32 (n 0), .int .u32 (n 1), .int .u32 (n 2), .int .u32 (n 3), .int .u32 (n 4), .int .u32 (n 5), .int .u32 (n 6), .int .u32 (n 7), .int .u32 (n 8), .int .u32 (n 9)] 42)).trans hl1)
  clear HV hl1
  go_upto_region 2 with (first | (refine wpList_store_rowTo rfl 27 (.tmp 7) (.tmp 13) rfl rfl w1.heap.size (xRow n a b) rfl rfl 27 (xRow xZ0 0 0) (heap_alloc_last w1 _) (by kernel_rfl) rfl (by kernel_rfl) ?_; rw [World.setRow_alloc_new]))
  have hA2 := (MapKept.heap_alloc w1 (.cells (xRow n a b) 27)).1
  have hz2 : w1.heap.size < (w1.alloc (.cells (xRow n a b) 27)).heap.size := by simp
  have hl2 := HL1.out.alloc (.cells (xRow n a b) 27)
  obtain ⟨w2, hw2⟩ : ∃ w2, w1.alloc (.cells (xRow n a b) 27) = w2 := ⟨_, rfl⟩
  obtain ⟨A, hA⟩ : ∃ A, w1.heap.size = A := ⟨_, rfl⟩
  rw [hw2] at hA2 hl2 hz2
  rw [hA] at hA2 hz2
  try rw [hw2]
  try rw [hA]
  clear hw2 hA HL1
  have HRA := Lib.hid (rangeAt_block (w := w2) (cs := [.int .u64 (n 0), .int .u64 (n 1), .int .u64 (n 2), .int .u64 (n 3), .int .u64 (n 4), .int .u64 (n 5), .int .u64 (n 6), .int .u64 (n 7), .int .u64 (n 8), .int .u64 (n 9), .complex .f64 a b]) hA2)
  have HA2 := Lib.hid hA2
  have HZ2 := Lib.hid hz2
  have HL2 := Lib.hid hl2
  clear hA2 hz2 hl2
  go_wp2_with (first | (refine wpList_load_mid rfl 27 (.tmp 7) rfl A 0 rfl [.int .u64 (n 0), .int .u64 (n 1), .int .u64 (n 2), .int .u64 (n 3), .int .u64 (n 4), .int .u64 (n 5), .int .u64 (n 6), .int .u64 (n 7), .int .u64 (n 8), .int .u64 (n 9), .complex .f64 a b] _ HRA.out Tryz.underlying27 rfl (by kernel_rfl) ?_))
  refine (HF.out _ (HE.out.later HL2.out).1).mono ?_
  rintro e w3 ⟨rfl, hl3⟩
  have HL3 := Lib.hid (HL2.out.trans hl3)
  have HA3 := Lib.hid ((Below.block hl3 A HZ2.out).trans HA2.out)
  have HZ3 := Lib.hid (Nat.lt_of_lt_of_le HZ2.out hl3.size)
  clear hl3 HRA HA2 HZ2 HL2
  go_wp2_with fail
  refine (HP.out _ (HE.out.later HL3.out)).mono ?_
  rintro e w4 ⟨rfl, hl4⟩
  have HL4 := Lib.hid (HL3.out.trans hl4)
  have HA4 := Lib.hid ((Below.block hl4 A HZ3.out).trans HA3.out)
  have HZ4 := Lib.hid (Nat.lt_of_lt_of_le HZ3.out hl4.size)
  clear hl4 HA3 HZ3 HL3 HF HP
  go_upto_region 3 with (first | (refine wpList_store_rowTo rfl 27 (.tmp 8) (.tmp 18) rfl rfl w4.heap.size (xRow n a b) rfl rfl 27 (xRow xZ0 0 0) (heap_alloc_last w4 _) (by kernel_rfl) rfl (by kernel_rfl) ?_; rw [World.setRow_alloc_new]))
  have HL5 := Lib.hid (HL4.out.alloc (.cells (xRow n a b) 27))
  have hA5 : (w4.alloc (.cells (xRow n a b) 27)).heap[A]? = some (.cells (xRow n a b) 27 (0, 0)) := (Below.heap_alloc w4 _ _ HZ4.out).trans HA4.out
  have hB5 := (MapKept.heap_alloc w4 (.cells (xRow n a b) 27)).1
  obtain ⟨w5, hw5⟩ : ∃ w5, w4.alloc (.cells (xRow n a b) 27) = w5 := ⟨_, rfl⟩
  obtain ⟨B, hB⟩ : ∃ B, w4.heap.size = B := ⟨_, rfl⟩
  rw [hw5] at HL5 hA5 hB5
  rw [hB] at hB5
  try rw [hw5]
  try rw [hB]
  clear hw5 hB HL4 HA4 HZ4
  have HRA := Lib.hid (rangeAt_block (w := w5) (cs := [.int .u64 (n 0), .int .u64 (n 1), .int .u64 (n 2), .int .u64 (n 3), .int .u64 (n 4), .int .u64 (n 5), .int .u64 (n 6), .int .u64 (n 7), .int .u64 (n 8), .int .u64 (n 9), .complex .f64 a b]) hA5)
  have HRB := Lib.hid (rangeAt_block (w := w5) (cs := [.int .u64 (n 0), .int .u64 (n 1), .int .u64 (n 2), .int .u64 (n 3), .int .u64 (n 4), .int .u64 (n 5), .int .u64 (n 6), .int .u64 (n 7), .int .u64 (n 8), .int .u64 (n 9), .complex .f64 a b]) hB5)
  obtain ⟨⟨ca0, ca1, ca2, ca3, ca4, ca5⟩, ca6, ca7, ca8, ca9, ca10⟩ := setRow_cellsR hA5
  obtain ⟨⟨cb0, cb1, cb2, cb3, cb4, cb5⟩, cb6, cb7, cb8, cb9, cb10⟩ := setRow_cellsR hB5
  clear hA5 hB5
  by_cases h6 : 600 < T.size
  · have h6d : decide (600 < (T.size : Int)) = true := by simp; omega
    clear h6
    go_wp2_with fail
    refine (awake_is _ (HE.out.later HL5.out).1).mono ?_
    rintro e w6 ⟨rfl, hl6⟩
    have HL6 := Lib.hid (HL5.out.trans hl6)
    clear hl6
    go_wp2_with fail
    go_ret
    exact ⟨rfl, HL6.out⟩
  · have h6d : decide (600 < (T.size : Int)) = false := by simp; omega
    obtain ⟨l, hl⟩ : ∃ l : List UInt8, T = ⟨l.toArray⟩ := ⟨T.data.toList, by cases T; simp⟩
    have hlen : l.length ≤ 600 := by rw [hl, size_mk] at h6; omega
    have hPT := fun W hW => Parse_is l (by omega) W hW
    have hFT := fun (h : prC (spl l) = 0) W hW => Format_is (prX (spl l)) (prX_ok _) (prA (spl l)) (prB (spl l)) (prA_le _).1 (prA_le _).2 W hW
    have hfm := fmt_pr l
    have h3 := prC_three (spl l)
    have hbad := pr_bad (ws := spl l)
    have hab := prA_le (spl l)
    obtain ⟨y, hy⟩ : ∃ y, prX (spl l) = y := ⟨_, rfl⟩
    obtain ⟨p, hp⟩ : ∃ p, prA (spl l) = p := ⟨_, rfl⟩
    obtain ⟨q, hq⟩ : ∃ q, prB (spl l) = q := ⟨_, rfl⟩
    obtain ⟨c, hc⟩ : ∃ c, prC (spl l) = c := ⟨_, rfl⟩
    rw [hy, hp, hq, hc] at hPT hFT hfm
    rw [hc] at h3
    rw [hy, hp, hq, hc] at hbad
    rw [hp, hq] at hab
    rw [← hl] at hPT
    have hFT' : c = 0 → ∀ W, Env W → Calls Tryz.prog 13 #[statV y p q] W fun e w' => e = .returned (.string T) ∧ Later W w' := fun h W hW => by
      have := hFT h W hW
      rw [hfm h, ← hl] at this
      exact this
    unfold statV at hPT hFT'
    have HPT := Lib.hid hPT
    have HFT := Lib.hid hFT'
    have HAB := Lib.hid hab
    have HBAD := Lib.hid hbad
    have H3 := Lib.hid h3
    clear h6 hl hlen hPT hFT hfm h3 hbad hab hy hp hq hc hFT'
    go_wp2_with fail
    refine (HPT.out _ (HE.out.later HL5.out)).mono ?_
    rintro e w6 ⟨rfl, hl6⟩
    have HL6 := Lib.hid (HL5.out.trans hl6)
    clear hl6 HRA HRB HL5 HPT ca0 ca1 ca2 ca3 ca4 ca5 ca6 ca7 ca8 ca9 ca10 cb0 cb1 cb2 cb3 cb4 cb5 cb6 cb7 cb8 cb9 cb10 hnq
    go_upto_region 8 with (first | (refine wpList_store_rowTo rfl 27 (.tmp 10) (.tmp 34) rfl rfl w6.heap.size (xRow y p q) rfl rfl 27 (xRow xZ0 0 0) (heap_alloc_last w6 _) (by kernel_rfl) rfl (by kernel_rfl) ?_; rw [World.setRow_alloc_new]))
    have HL7 := Lib.hid (HL6.out.alloc (.cells (xRow y p q) 27))
    have hC7 := (MapKept.heap_alloc w6 (.cells (xRow y p q) 27)).1
    obtain ⟨w7, hw7⟩ : ∃ w7, w6.alloc (.cells (xRow y p q) 27) = w7 := ⟨_, rfl⟩
    obtain ⟨C, hC⟩ : ∃ C, w6.heap.size = C := ⟨_, rfl⟩
    rw [hw7] at HL7 hC7
    rw [hC] at hC7
    try rw [hw7]
    try rw [hC]
    clear hw7 hC HL6
    by_cases hc0 : c = 0
    · subst hc0
      have HRC := Lib.hid (rangeAt_block (w := w7) (cs := [.int .u64 (y 0), .int .u64 (y 1), .int .u64 (y 2), .int .u64 (y 3), .int .u64 (y 4), .int .u64 (y 5), .int .u64 (y 6), .int .u64 (y 7), .int .u64 (y 8), .int .u64 (y 9), .complex .f64 p q]) hC7)
      clear hC7
      go_wp2_with (first | (refine wpList_load_mid rfl 27 (.tmp 10) rfl C 0 rfl [.int .u64 (y 0), .int .u64 (y 1), .int .u64 (y 2), .int .u64 (y 3), .int .u64 (y 4), .int .u64 (y 5), .int .u64 (y 6), .int .u64 (y 7), .int .u64 (y 8), .int .u64 (y 9), .complex .f64 p q] _ HRC.out Tryz.underlying27 rfl (by kernel_rfl) ?_))
      refine (statIs_is _ _ _ _ _ _ _ _ _ _ p q HAB.out.1 HAB.out.2 _).mono ?_
      rintro e w8 ⟨rfl, hl8⟩
      have HL8 := Lib.hid (HL7.out.trans hl8)
      have HRD := Lib.hid (fun j v hv => cell_at hl8 (HRC.out j v hv) (World.block_lt_of_cell? _ _ (HRC.out j v hv)))
      have d0 := HRD.out 0 _ rfl
      have d1 := HRD.out 1 _ rfl
      have d2 := HRD.out 2 _ rfl
      have d3 := HRD.out 3 _ rfl
      have d4 := HRD.out 4 _ rfl
      have d5 := HRD.out 5 _ rfl
      have d6 := HRD.out 6 _ rfl
      have d7 := HRD.out 7 _ rfl
      have d8 := HRD.out 8 _ rfl
      have d9 := HRD.out 9 _ rfl
      have d10 := HRD.out 10 _ rfl
      clear hl8 HRC HL7
      go_wp2_with fail
      refine (HFT.out (by first | rfl | trivial) _ (HE.out.later HL8.out).1).mono ?_
      rintro e w9 ⟨rfl, hl9⟩
      have HL9 := Lib.hid (HL8.out.trans hl9)
      clear hl9 HRD HL8 HFT d0 d1 d2 d3 d4 d5 d6 d7 d8 d9 d10
      go_wp2_with fail
      refine (awake_is _ (HE.out.later HL9.out).1).mono ?_
      rintro e w10 ⟨rfl, hl10⟩
      have HL10 := Lib.hid (HL9.out.trans hl10)
      clear hl10 HL9
      go_wp2_with fail
      go_ret
      exact ⟨rfl, HL10.out⟩
    · have hcc : c = 4 ∨ c = 7 := by
        rcases H3.out with h | h | h
        · exact absurd h hc0
        · exact .inl h
        · exact .inr h
      obtain ⟨b1, b2, b3⟩ := HBAD.out hc0
      rw [b1, b2, b3] at hC7
      have HRC := Lib.hid (show w7.rangeAt C 0 [.int .u64 0, .int .u64 0, .int .u64 0, .int .u64 0, .int .u64 0, .int .u64 0, .int .u64 0, .int .u64 0, .int .u64 0, .int .u64 0, .complex .f64 0 0] from rangeAt_block hC7)
      have heq := eql_stat (fun _ => 0) 0 0 (by omega) (by omega)
      clear hC7 b1 b2 b3 HBAD H3 HAB HFT hc0
      rcases hcc with rfl | rfl
      all_goals
        go_wp2_with (first | (refine wpList_load_mid rfl 27 (.tmp 10) rfl C 0 rfl [.int .u64 0, .int .u64 0, .int .u64 0, .int .u64 0, .int .u64 0, .int .u64 0, .int .u64 0, .int .u64 0, .int .u64 0, .int .u64 0, .complex .f64 0 0] _ HRC.out Tryz.underlying27 rfl (by kernel_rfl) ?_))
        refine (awake_is _ (HE.out.later HL7.out).1).mono ?_
        rintro e w10 ⟨rfl, hl10⟩
        have HL10 := Lib.hid (HL7.out.trans hl10)
        clear hl10 HL7
        go_wp2_with fail
        go_ret
        exact ⟨rfl, HL10.out⟩
end Go.Proofs.YthohoendjipleaaGreatDoor
