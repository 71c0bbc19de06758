/-
  Texts read as Stats: the program and the reference alike; the law StatParses, walked. Conditions: the listed variables read as laid.
-/
import Derived.Test.YthohoendjipleaaGreatDoorRp
import Derived.Test.YthohoendjipleaaGreatDoorSm
import Derived.Test.YthohoendjipleaaGreatDoorAw
namespace Go.Proofs.YthohoendjipleaaGreatDoor
open Go.RowKit Go.Sort Go.Lib
set_option linter.unusedSimpArgs false
set_option linter.unusedVariables false

theorem wrd_len (ws : List (List UInt8)) (j : Nat) : (wrd ws j).length ≤ sumL ws := by
  unfold wrd
  induction ws generalizing j with
  | nil => simp [sumL]
  | cons a t ih =>
    cases j with
    | zero => simp [sumL]
    | succ j =>
      have h1 := ih j
      have e : (a :: t).getD (j + 1) [] = t.getD j [] := by simp [List.getD]
      rw [e]
      have : sumL (a :: t) = a.length + sumL t := by simp [sumL]
      omega
theorem wrd_short (l : List UInt8) (hl : l.length ≤ 100000) (j : Nat) : (wrd (spl l) j).length ≤ 100000 := by
  have h1 := wrd_len (spl l) j
  have h2 := spl_sum l
  omega
theorem Parse_is (l : List UInt8) (hl : l.length ≤ 100000) (w : World) (hE : EnvP w) :
    Calls Tryz.prog 12 #[.string ⟨l.toArray⟩] w fun e w' => e = .returned (.tuple #[statV (prX (spl l)) (prA (spl l)) (prB (spl l)), .int .i64 (prC (spl l))]) ∧ Later w w' := by
  by_cases h : headOK (spl l)
  · exact Parse_main l hl _ rfl h (wrd_short l hl) w hE
  · have hc := prC_syn (ws := spl l) (fun k => h k.1)
    obtain ⟨h1, h2, h3⟩ := pr_bad (ws := spl l) (by rw [hc]; decide)
    rw [hc, h1, h2, h3]
    exact Parse_head l hl _ rfl h w hE
theorem refParse_is (l : List UInt8) (w : World) :
    Calls Tryz.prog 15 #[.string ⟨l.toArray⟩] w fun e w' => e = .returned (.tuple #[statV (prX (spl l)) (prA (spl l)) (prB (spl l)), .int .i64 (prC (spl l))]) ∧ Later w w' := by
  by_cases h6 : l.length ≤ 600
  · by_cases h : headOK (spl l)
    · exact refParse_main l _ rfl h6 h (wrd_short l (by omega)) w
    · exact refParse_head l _ rfl h6 h w
  · exact refParse_long l _ rfl (by omega) w

set_option maxRecDepth 100000 in
set_option maxHeartbeats 4000000 in
theorem parses_is (t : ByteArray) (ht : t.size ≤ 100000) (w : World) (hE : EnvP w) : Calls Tryz.prog 6 #[.string t] w fun e w' => e = .returned (.bool true) ∧ Later w w' := by
  obtain ⟨l, rfl⟩ : ∃ l : List UInt8, t = ⟨l.toArray⟩ := ⟨t.data.toList, by cases t; simp⟩
  rw [size_mk] at ht
  have HP := Lib.hid (Parse_is l ht w hE)
  have HQ := Lib.hid (fun W => refParse_is l W)
  obtain ⟨y, hy⟩ : ∃ y, prX (spl l) = y := ⟨_, rfl⟩
  obtain ⟨a, ha⟩ : ∃ a, prA (spl l) = a := ⟨_, rfl⟩
  obtain ⟨b, hb⟩ : ∃ b, prB (spl l) = b := ⟨_, rfl⟩
  obtain ⟨c, hc⟩ : ∃ c, prC (spl l) = c := ⟨_, rfl⟩
  have hab := prA_le (spl l)
  rw [hy, ha, hb, hc] at HP HQ
  rw [ha, hb] at hab
  have HS := Lib.hid (fun W => Same_is y a b hab.1 hab.2 W)
  obtain ⟨T, hT⟩ : ∃ T : ByteArray, (⟨l.toArray⟩ : ByteArray) = T := ⟨_, rfl⟩
  rw [hT] at HP HQ ⊢
  clear hT hy ha hb hc hab ht hE
  unfold statV at HP HQ HS
  go_enter Tryz.func6, Tryz.ntmps6
  go_wp2_with fail
  refine (HP.out).mono ?_
  rintro e w1 ⟨rfl, hl1⟩
  have HL1 := Lib.hid hl1
  clear HP hl1
  go_wp2_with (first | (refine wpList_store_rowTo rfl 27 (.tmp 3) (.tmp 10) rfl rfl w1.heap.size (xRow y a b) rfl rfl 27 (xRow xZ0 0 0) (heap_alloc_last w1 _) (by kernel_rfl) rfl (by kernel_rfl) ?_; rw [World.setRow_alloc_new]))
  refine (HQ.out _).mono ?_
  rintro e w2 ⟨rfl, hl2⟩
  have HB2 := Lib.hid ((Below.block hl2 w1.heap.size (by simp)).trans (MapKept.heap_alloc w1 (.cells (xRow y a b) 27)).1)
  have HZ2 := Lib.hid (show w1.heap.size < w2.heap.size from Nat.lt_of_lt_of_le (by simp) hl2.size)
  have HL2 := Lib.hid ((HL1.out.alloc (.cells (xRow y a b) 27)).trans hl2)
  clear HQ hl2 HL1
  go_upto_region 3 with (first | (refine wpList_store_rowTo rfl 27 (.tmp 5) (.tmp 15) rfl rfl w2.heap.size (xRow y a b) rfl rfl 27 (xRow xZ0 0 0) (heap_alloc_last w2 _) (by kernel_rfl) rfl (by kernel_rfl) ?_; rw [World.setRow_alloc_new]))
  have HL3 := Lib.hid (HL2.out.alloc (.cells (xRow y a b) 27))
  have hB3 : (w2.alloc (.cells (xRow y a b) 27)).heap[w1.heap.size]? = some (.cells (xRow y a b) 27 (0, 0)) := (Below.heap_alloc w2 _ _ HZ2.out).trans HB2.out
  have hC3 := (MapKept.heap_alloc w2 (.cells (xRow y a b) 27)).1
  obtain ⟨w3, hw3⟩ : ∃ w3, w2.alloc (.cells (xRow y a b) 27) = w3 := ⟨_, rfl⟩
  rw [hw3] at HL3 hB3 hC3
  try rw [hw3]
  obtain ⟨A, hA⟩ : ∃ A, w1.heap.size = A := ⟨_, rfl⟩
  obtain ⟨B, hB⟩ : ∃ B, w2.heap.size = B := ⟨_, rfl⟩
  rw [hA] at hB3
  rw [hB] at hC3
  try rw [hA]
  try rw [hB]
  clear hw3 hA hB HL2 HB2 HZ2
  have HRA := Lib.hid (rangeAt_block (w := w3) (cs := [.int .u64 (y 0), .int .u64 (y 1), .int .u64 (y 2), .int .u64 (y 3), .int .u64 (y 4), .int .u64 (y 5), .int .u64 (y 6), .int .u64 (y 7), .int .u64 (y 8), .int .u64 (y 9), .complex .f64 a b]) hB3)
  have HRB := Lib.hid (rangeAt_block (w := w3) (cs := [.int .u64 (y 0), .int .u64 (y 1), .int .u64 (y 2), .int .u64 (y 3), .int .u64 (y 4), .int .u64 (y 5), .int .u64 (y 6), .int .u64 (y 7), .int .u64 (y 8), .int .u64 (y 9), .complex .f64 a b]) hC3)
  clear hB3 hC3
  go_wp2_with (first | (refine wpList_load_mid rfl 27 (.tmp 3) rfl A 0 rfl [.int .u64 (y 0), .int .u64 (y 1), .int .u64 (y 2), .int .u64 (y 3), .int .u64 (y 4), .int .u64 (y 5), .int .u64 (y 6), .int .u64 (y 7), .int .u64 (y 8), .int .u64 (y 9), .complex .f64 a b] _ HRA.out Tryz.underlying27 rfl (by kernel_rfl) ?_) | (refine wpList_load_mid rfl 27 (.tmp 5) rfl B 0 rfl [.int .u64 (y 0), .int .u64 (y 1), .int .u64 (y 2), .int .u64 (y 3), .int .u64 (y 4), .int .u64 (y 5), .int .u64 (y 6), .int .u64 (y 7), .int .u64 (y 8), .int .u64 (y 9), .complex .f64 a b] _ HRB.out Tryz.underlying27 rfl (by kernel_rfl) ?_))
  refine (HS.out _).mono ?_
  rintro e w4 ⟨rfl, hl4⟩
  have HL4 := Lib.hid (HL3.out.trans hl4)
  clear hl4 HRA HRB HS
  go_wp2_with fail
  go_ret
  exact ⟨rfl, HL4.out⟩

set_option maxRecDepth 100000 in
theorem StatParses_is (t : ByteArray) (w : World) (hE : EnvP w) : Calls Tryz.prog 3 #[.string t] w fun e w' => e = .returned (.bool true) ∧ Later w w' := by
  by_cases ht : 5000 < t.size
  · have hd : decide (5000 < (t.size : Int)) = true := by simp; omega
    have HA := Lib.hid (awake_is w hE.1)
    clear ht hE
    go_enter Tryz.func3, Tryz.ntmps3
    go_wp2_with fail
    refine HA.out.mono ?_
    rintro e w1 ⟨rfl, hl1⟩
    go_wp2_with fail
    go_ret
    exact ⟨rfl, hl1⟩
  · have hd : decide (5000 < (t.size : Int)) = false := by simp; omega
    have HP := Lib.hid (parses_is t (by omega) w hE)
    have HE := Lib.hid hE
    clear ht hE
    go_enter Tryz.func3, Tryz.ntmps3
    go_wp2_with fail
    refine HP.out.mono ?_
    rintro e w1 ⟨rfl, hl1⟩
    have HL := Lib.hid hl1
    clear hl1
    go_wp2_with fail
    refine (awake_is _ (HE.out.later HL.out).1).mono ?_
    rintro e w2 ⟨rfl, hl2⟩
    go_wp2_with fail
    go_ret
    exact ⟨rfl, HL.out.trans hl2⟩
end Go.Proofs.YthohoendjipleaaGreatDoor
