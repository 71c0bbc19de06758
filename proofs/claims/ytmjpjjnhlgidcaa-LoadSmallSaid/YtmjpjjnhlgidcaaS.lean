/-
  Layer 15: the law LoadSmall, walked. Conditions: none.
-/
import Derived.Test.YtmjpjjnhlgidcaaN4
import Derived.Test.YtmjpjjnhlgidcaaL
namespace Go.Proofs.Ytmjpjjnhlgidcaa
open Go.RowKit Go.Sort
set_option linter.unusedSimpArgs false
set_option linter.unusedVariables false

def bitL : List Nat := [0, 1, 2, 3, 5, 4503599627370495, 4503599627370496, 4503599627370497, 9007199254740991, 4368491638549381120, 4368491638549381121, 4372995238176751616, 4372995238176751615, 4602678819172646912, 4607182418800017407, 4607182418800017408, 4607182418800017409, 4611686018427387902, 4611686018427387903, 4611686018427387904, 4611686018427387905, 9218868437227405311, 9218868437227405312, 9221120237041090560, 9223372036854775808, 9223372036854775809, 13830554455654793216]
theorem bit_words : ∀ x ∈ bitL, Word x := by
  intro x hx
  simp only [bitL, List.mem_cons, List.not_mem_nil, or_false] at hx
  rcases hx with rfl | rfl | rfl | rfl | rfl | rfl | rfl | rfl | rfl | rfl | rfl | rfl | rfl | rfl | rfl | rfl | rfl | rfl | rfl | rfl | rfl | rfl | rfl | rfl | rfl | rfl | rfl
  · exact .inl ⟨_, Val.of (by decide)⟩
  · exact .inl ⟨_, Val.of (by decide)⟩
  · exact .inl ⟨_, Val.of (by decide)⟩
  · exact .inl ⟨_, Val.of (by decide)⟩
  · exact .inl ⟨_, Val.of (by decide)⟩
  · exact .inl ⟨_, Val.of (by decide)⟩
  · exact .inl ⟨_, Val.of (by decide)⟩
  · exact .inl ⟨_, Val.of (by decide)⟩
  · exact .inl ⟨_, Val.of (by decide)⟩
  · exact .inl ⟨_, Val.of (by decide)⟩
  · exact .inl ⟨_, Val.of (by decide)⟩
  · exact .inl ⟨_, Val.of (by decide)⟩
  · exact .inl ⟨_, Val.of (by decide)⟩
  · exact .inl ⟨_, Val.of (by decide)⟩
  · exact .inl ⟨_, Val.of (by decide)⟩
  · exact .inl ⟨_, Val.of (by decide)⟩
  · exact .inl ⟨_, Val.of (by decide)⟩
  · exact .inl ⟨_, Val.of (by decide)⟩
  · exact .inl ⟨_, Val.of (by decide)⟩
  · exact .inl ⟨_, Val.of (by decide)⟩
  · exact .inr (.inr (.inr ⟨by kernel_rfl, by kernel_rfl⟩))
  · exact .inr (.inr (.inr ⟨by kernel_rfl, by kernel_rfl⟩))
  · exact .inr (.inr (.inr ⟨by kernel_rfl, by kernel_rfl⟩))
  · exact .inr (.inl (by kernel_rfl))
  · exact .inl ⟨_, .inr ⟨rfl, rfl⟩⟩
  · exact .inr (.inr (.inl (by kernel_rfl)))
  · exact .inr (.inr (.inl (by kernel_rfl)))
theorem bit_word (i : Nat) (h : i < 27) : Word (bitL.getD i 0) := by
  have h2 : i < bitL.length := h
  rw [List.getD_eq_getElem?_getD, List.getElem?_eq_getElem h2]
  exact bit_words _ (List.getElem_mem h2)
def bitC : Array Value := #[.int .u64 0, .int .u64 1, .int .u64 2, .int .u64 3, .int .u64 5, .int .u64 4503599627370495, .int .u64 4503599627370496, .int .u64 4503599627370497, .int .u64 9007199254740991, .int .u64 4368491638549381120, .int .u64 4368491638549381121, .int .u64 4372995238176751616, .int .u64 4372995238176751615, .int .u64 4602678819172646912, .int .u64 4607182418800017407, .int .u64 4607182418800017408, .int .u64 4607182418800017409, .int .u64 4611686018427387902, .int .u64 4611686018427387903, .int .u64 4611686018427387904, .int .u64 4611686018427387905, .int .u64 9218868437227405311, .int .u64 9218868437227405312, .int .u64 9221120237041090560, .int .u64 9223372036854775808, .int .u64 9223372036854775809, .int .u64 13830554455654793216]
theorem bitC_eq : bitC = (bitL.map (fun x : Nat => Value.int .u64 (x : Int))).toArray := rfl
theorem bit_cell {w : World} {B : Nat} {t : TypeId} (h : w.heap[B]? = some (.cells bitC t (0, 0))) (i : Nat) (hi : i < 27) : w.cell? ⟨B, i, none⟩ = some (.int .u64 ((bitL.getD i 0 : Nat) : Int)) := by
  have h2 : i < bitL.length := hi
  simp only [World.cell?, h]
  simp only [bitC_eq, List.getElem?_toArray, List.getElem?_map, List.getD_eq_getElem?_getD, List.getElem?_eq_getElem h2]
  rfl
theorem bit_W1 : Word 4607182418800017408 := bit_words _ (by decide)
set_option maxRecDepth 100000 in
set_option maxHeartbeats 2000000 in
theorem small_is (w : World) : Calls Try.prog 4 #[] w fun e w' => e = .returned (.bool true) ∧ Later w w' := by
  have hst := run_store_complex Try.prog
  obtain ⟨W, hW⟩ : ∃ W, w.alloc (.cells bitC 33) = W := ⟨_, rfl⟩
  obtain ⟨B, hB⟩ : ∃ B, w.heap.size = B := ⟨_, rfl⟩
  have hb0 : W.heap[B]? = some (.cells bitC 33 (0, 0)) := by rw [← hW, ← hB]; exact heap_alloc_last _ _
  have hl0 : Later w W := by rw [← hW]; exact (Later.refl w).alloc _
  have HB := Lib.hid (And.intro hb0 hl0)
  have HBs := Lib.hid hB
  unfold bitC at hW
  have HW := Lib.hid hW
  clear hb0 hl0 hB hW
  go_enter Try.func4, Try.ntmps4
  go_wp2_with fail
  rw [HW.out, HBs.out]
  clear HW HBs
  go_loopw [2, 3] (fun s2 s3 wr => ∃ i p q : Nat, i ≤ 27 ∧ Word p ∧ Word q ∧ s2 = .complex .f64 p q ∧ s3 = .int .i64 (i : Int) ∧ Later W wr) (fun _ s3 _ => 27 - (RowKit.intOf s3).toNat)
  case atStart => exact ⟨0, _, _, by omega, bit_W1, bit_words 0 (by decide), rfl, rfl, Later.refl _⟩
  case round =>
    obtain ⟨i, p, q, hi, hp, hq, rfl, rfl, hl⟩ := hrel
    rename World => wk
    have HI := Lib.hid (And.intro hi (And.intro hp (And.intro hq hl)))
    clear hi hp hq hl
    by_cases hlt : i < 27
    · have hd1 : decide ((i : Int) < 27) = true := by simp; omega
      have hd2 : decide (i < 27) = true := by simp; omega
      have HLT := Lib.hid hlt
      clear hlt
      go_wp2_with fail
      go_loopw [2, 4] (fun s2 s4 wr => ∃ k p q : Nat, k ≤ 27 ∧ Word p ∧ Word q ∧ s2 = .complex .f64 p q ∧ s4 = .int .i64 (k : Int) ∧ Later W wr) (fun _ s4 _ => 27 - (RowKit.intOf s4).toNat)
      case atStart => exact ⟨0, p, q, by omega, HI.out.2.1, HI.out.2.2.1, rfl, rfl, HI.out.2.2.2⟩
      case round =>
        clear hd1 hd2
        obtain ⟨k, p', q', hk, hp, hq, rfl, rfl, hl⟩ := hrel
        rename World => wj
        by_cases hlk : k < 27
        · have hd1 : decide ((k : Int) < 27) = true := by simp; omega
          have hd2 : decide (k < 27) = true := by simp; omega
          have c1 := cell_at hl (bit_cell HB.out.1 i HLT.out) (Array.getElem?_eq_some_iff.1 HB.out.1).1
          have c2 := cell_at hl (bit_cell HB.out.1 k hlk) (Array.getElem?_eq_some_iff.1 HB.out.1).1
          have ha := bit_word i HLT.out
          have hb := bit_word k hlk
          obtain ⟨a, hae⟩ : ∃ a, bitL.getD i 0 = a := ⟨_, rfl⟩
          obtain ⟨b, hbe⟩ : ∃ b, bitL.getD k 0 = b := ⟨_, rfl⟩
          rw [hae] at c1 ha
          rw [hbe] at c2 hb
          clear hae hbe
          have hi0 : (0 : Int) ≤ (i : Int) := by omega
          have hi1 : (i : Int) < 27 := by have := HLT.out; omega
          have hk0 : (0 : Int) ≤ (k : Int) := by omega
          have hk1 : (k : Int) < 27 := by omega
          have HK := Lib.hid (And.intro hp (And.intro hq (And.intro hl (And.intro ha (And.intro hb (And.intro hk hlk))))))
          clear hp hq hl ha hb hk hlk
          have z1 := cell_regrown c1
          have z2 := cell_regrown c2
          have f1 := frombits_run a
          have f2 := frombits_run b
          go_wp2_with fail
          refine wp_region_quiet_below mixed (by kernel_rfl) ?_
          repeat (quiet_step (fail))
          with_reducible refine wpQuiet_nil ?_
          intro w5 hw5
          have hl5 : Later wj w5 := by obtain ⟨p, rfl⟩ := hw5; exact below_regrown wj p.d p.os
          have HL5 := Lib.hid (HK.out.2.2.1.trans hl5)
          clear hw5 hl5 z1 z2 c1 c2 f1 f2
          obtain ⟨hp, hq, _, ha, hb, _, hlk⟩ := HK.out
          have O1 := Lib.hid (fun d w => one_any ha hb d w)
          have T1 := Lib.hid (fun w => two_any ha hb hp hq w)
          have T2 := Lib.hid (fun w => two_any ha hb hb ha w)
          clear hp hq ha hb hlk
          go_wp2_with fail
          refine (O1.out _ _).mono ?_
          rintro e w6 ⟨rfl, hl6⟩
          have HL6 := Lib.hid (HL5.out.trans hl6)
          clear hl6 HL5
          go_wp2_with fail
          refine (O1.out _ _).mono ?_
          rintro e w7 ⟨rfl, hl7⟩
          have HL7 := Lib.hid (HL6.out.trans hl7)
          clear hl7 HL6
          go_wp2_with fail
          refine (T1.out _).mono ?_
          rintro e w8 ⟨rfl, hl8⟩
          have HL8 := Lib.hid (HL7.out.trans hl8)
          clear hl8 HL7
          go_wp2_with fail
          refine (T2.out _).mono ?_
          rintro e w9 ⟨rfl, hl9⟩
          have HL9 := Lib.hid (HL8.out.trans hl9)
          clear hl9 HL8
          go_wp2_with fail
          have hlk := HK.out.2.2.2.2.2.2
          refine ⟨⟨k + 1, a, b, by omega, HK.out.2.2.2.1, HK.out.2.2.2.2.1, rfl, by rw [Int.natCast_add]; rfl, HL9.out⟩, ?_⟩
          show 27 - ((k : Int) + 1).toNat < 27 - ((k : Int)).toNat
          omega
        · obtain rfl : k = 27 := by omega
          have hd1 : decide ((27 : Int) < 27) = false := by decide
          have hd2 : decide (27 < 27) = false := by decide
          have HK := Lib.hid (And.intro hp (And.intro hq hl))
          clear hp hq hl hk hlk
          go_wp2_with fail
          rw [wrap_step i (by have := HI.out.1; omega)]
          have hli := HLT.out
          refine ⟨⟨i + 1, p', q', by omega, HK.out.1, HK.out.2.1, rfl, by rw [Int.natCast_add]; rfl, HK.out.2.2⟩, ?_⟩
          show 27 - ((i : Int) + 1).toNat < 27 - ((i : Int)).toNat
          omega
    · have hi27 : (i : Int) = 27 := by have := HI.out.1; omega
      rw [hi27]
      clear hi27
      have hd1 : decide ((27 : Int) < 27) = false := by decide
      have hd2 : decide (27 < 27) = false := by decide
      clear hlt
      go_wp2_with fail
      go_loopw [6] (fun s6 wr => ∃ k : Nat, k ≤ 14 ∧ s6 = .int .i64 (k : Int) ∧ Later W wr) (fun s6 _ => 14 - (RowKit.intOf s6).toNat)
      case atStart => exact ⟨0, by omega, rfl, HI.out.2.2.2⟩
      case round =>
        clear hd1 hd2
        obtain ⟨k, hk, rfl, hl⟩ := hrel
        rename World => wj
        by_cases hlk : k < 14
        · have hd1 : decide ((k : Int) < 14) = true := by simp; omega
          have hd2 : decide (k < 14) = true := by simp; omega
          have hw1 := wrap_step k (by omega)
          have HK := Lib.hid (And.intro hl (And.intro hk hlk))
          clear hl hk hlk
          go_wp2_with fail
          refine (one_any (.inl ⟨_, Val.of (by decide)⟩) (.inl ⟨_, Val.of (by decide)⟩) _ _).mono ?_
          rintro e w6 ⟨rfl, hl6⟩
          have HL6 := Lib.hid (HK.out.1.trans hl6)
          clear hl6
          go_wp2_with fail
          refine (one_any (.inl ⟨_, Val.of (by decide)⟩) (.inl ⟨_, Val.of (by decide)⟩) _ _).mono ?_
          rintro e w7 ⟨rfl, hl7⟩
          have HL7 := Lib.hid (HL6.out.trans hl7)
          clear hl7 HL6
          go_wp2_with fail
          have hlk := HK.out.2.2
          rw [hw1]
          refine ⟨⟨k + 1, by omega, by rw [Int.natCast_add]; rfl, HL7.out⟩, ?_⟩
          show 14 - ((k : Int) + 1).toNat < 14 - ((k : Int)).toNat
          omega
        · obtain rfl : k = 14 := by omega
          have hd1 : decide ((14 : Int) < 14) = false := by decide
          have hd2 : decide (14 < 14) = false := by decide
          have HK := Lib.hid hl
          clear hl hk hlk
          have q6 := eq_self 0 0 (by decide) (by decide)
          go_wp2_with fail
          refine (Of_nil _).mono ?_
          rintro e w6 ⟨rfl, hl6⟩
          have HL6 := Lib.hid (HK.out.trans hl6)
          clear hl6
          go_wp2_with fail
          refine (awake_is _).mono ?_
          rintro e w7 ⟨rfl, hl7⟩
          have HL7 := Lib.hid (HL6.out.trans hl7)
          clear hl7 HL6
          go_wp2_with fail
          go_ret
          exact ⟨rfl, HB.out.2.trans HL7.out⟩
end Go.Proofs.Ytmjpjjnhlgidcaa
