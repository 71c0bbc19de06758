/-
  strconv.ParseUint at base 16 and 64 bits. Conditions: as in the text before.
-/
import Derived.Test.YthohoendjipleaaGreatDoorPu
namespace Go.Proofs.YthohoendjipleaaGreatDoor
open Go.RowKit Go.Sort Go.Lib
set_option linter.unusedSimpArgs false
set_option linter.unusedVariables false

/-- a byte with bit 5 set -/
def orL (n : Nat) : Nat := if n / 32 % 2 = 1 then n else n + 32
theorem or32_all : ((List.range 256).all fun n => bits .or .u8 (n : Int) 32 == (orL n : Int)) = true := by kernel_rfl
theorem or32 (c : UInt8) : bits .or .u8 (c.toNat : Int) 32 = (orL c.toNat : Int) := by
  have h := List.all_eq_true.1 or32_all c.toNat (List.mem_range.2 c.toNat_lt)
  exact beq_iff_eq.1 h
/-- a digit of base 16, of whatever case -/
def dv (c : UInt8) : Option Nat := if 48 ≤ c.toNat ∧ c.toNat ≤ 57 then some (c.toNat - 48) else if 97 ≤ orL c.toNat ∧ orL c.toNat ≤ 102 then some (orL c.toNat - 87) else none
def ph (acc : Nat) : List UInt8 → Option Nat
  | [] => some acc
  | c :: r => match dv c with
    | none => none
    | some d => if acc < 1152921504606846976 then ph (acc * 16 + d) r else none
set_option maxHeartbeats 32000000 in
set_option maxRecDepth 100000 in
theorem parse16_in (t : ByteArray) (hne : t.size ≠ 0) (hmax : t.size ≤ 9223372036854775806) (w : World) :
    Calls Tryz.prog 56 #[.string t, .int .i64 16, .int .i64 64] w fun e w' => PuEnd 123 Kind12 (ph 0 t.data.toList) e ∧ Later w w' := by
  have hemp : t.toList.isEmpty = false := by
    rw [← decide_eq_emptyBytes]
    exact decide_eq_false (fun h => hne (by rw [h]; rfl))
  have hcv := Lib.run_convert_string_bytes (P := Tryz.prog) w 9 86 5 t (u := .string) Tryz.underlying9 Tryz.underlying86 Tryz.underlying5
  have hB : ∀ j, j < t.size → (Lib.bytesWorld w 5 t).cell? ⟨w.heap.size, j, none⟩ = some (.int .u8 (t.data.toList.getD j 0).toNat) := fun j hj => Lib.bytesWorld_cell w 5 t j hj
  have hL1 : Later w (Lib.bytesWorld w 5 t) := Lib.bytesWorld_below w 5 t
  obtain ⟨W1, hW1⟩ : ∃ W1, W1 = Lib.bytesWorld w 5 t := ⟨_, rfl⟩
  rw [← hW1] at hcv hB hL1
  clear hW1
  obtain ⟨bs, hL⟩ : ∃ bs, bs = t.data.toList := ⟨_, rfl⟩
  have hLn : bs.length = t.size := by rw [hL, Lib.size_eq]
  rw [← hL] at hB ⊢
  clear hL
  have hmv : IntKind.u64.wrap (IntKind.u64.wrap 18446744073709551616 - 1) = 18446744073709551615 := by
    rw [IntKind.wrap_u64, IntKind.wrap_u64]
    decide
  go_enter Tryz.func56, Tryz.ntmps56
  go_wp2
  go_loop [12, 13, 101] (fun vu vn vi => ∃ (k acc : Nat) (a : Int), vu = .bool false ∧ vn = .int .u64 a ∧ vi = .int .i64 k ∧ k ≤ t.size ∧ Hid (a = (acc : Int) ∧ acc ≤ 18446744073709551615 ∧ ph 0 bs = ph acc (bs.drop k)))
    (fun _ _ vi => t.size - (RowKit.intOf vi).toNat)
  case atStart => exact ⟨0, 0, 0, rfl, rfl, rfl, by omega, rfl, by omega, rfl⟩
  case round =>
    obtain ⟨k, acc, a, rfl, rfl, rfl, hk, hh⟩ := hrel
    obtain ⟨ha, hacc, hdec⟩ := hh.out
    clear hh
    have a0 : 0 ≤ a := by omega
    have a1 : a ≤ 18446744073709551615 := by omega
    by_cases hkn : k < t.size
    · have hc := hB k hkn
      have hdrop : bs.drop k = bs[k]'(by omega) :: bs.drop (k + 1) := List.drop_eq_getElem_cons (by omega)
      have hget : bs.getD k 0 = bs[k]'(by omega) := by simp [List.getD, List.getElem?_eq_getElem (show k < bs.length by omega)]
      rw [hdrop] at hdec
      rw [hget] at hc
      generalize bs[k]'(by omega) = c at hc hdec
      have hc256 : c.toNat < 256 := c.toNat_lt
      clear hB hdrop hget
      have hor := or32 c
      obtain ⟨L, hL⟩ : ∃ L, orL c.toNat = L := ⟨_, rfl⟩
      rw [hL] at hor
      have hv0 := bits_lo_u8 .or (c.toNat : Int) 32
      have hu0 := bits_lo_u8 .or 95 32
      have hu1 := bits_hi_u8 .or 95 32
      have hL256 : L < 256 := by have := bits_hi_u8 .or (c.toNat : Int) 32; omega
      clear hv0
      by_cases hdig : 48 ≤ c.toNat ∧ c.toNat ≤ 57
      · obtain ⟨hd0, hd1⟩ := hdig
        have hdv : dv c = some (c.toNat - 48) := by unfold dv; rw [if_pos ⟨hd0, hd1⟩]
        by_cases hov : acc < 1152921504606846976
        · have hF : ph acc (c :: bs.drop (k + 1)) = ph (acc * 16 + (c.toNat - 48)) (bs.drop (k + 1)) := by rw [ph, hdv]; simp only []; rw [if_pos hov]
          have HN : Hid (a * 16 + ((c.toNat : Int) - 48) = ((acc * 16 + (c.toNat - 48) : Nat) : Int) ∧ acc * 16 + (c.toNat - 48) ≤ 18446744073709551615 ∧ ph 0 bs = ph (acc * 16 + (c.toNat - 48)) (bs.drop (k + 1))) := Lib.hid ⟨by omega, by omega, hdec.trans hF⟩
          have icut : a < 1152921504606846976 := by omega
          have iov : a * 16 + ((c.toNat : Int) - 48) ≤ 18446744073709551615 := by omega
          clear hacc hF hov hdec ha hdv hL hor hu0 hu1 hL256
          go_wp2
          refine ⟨⟨k + 1, acc * 16 + (c.toNat - 48), a * 16 + ((c.toNat : Int) - 48), rfl, (by first | rfl | (congr 1; omega)), (by first | rfl | (congr 1; omega)), by omega, HN⟩, by simp [RowKit.intOf]; omega⟩
        · have hF : ph acc (c :: bs.drop (k + 1)) = none := by rw [ph, hdv]; simp only []; rw [if_neg hov]
          rw [hF] at hdec
          have HE : Hid (ph 0 bs = none) := Lib.hid hdec
          have icut : 1152921504606846976 ≤ a := by omega
          clear hacc hF hov ha hdec hdv hL hor hu0 hu1 hL256
          go_wp2
          go_ret2
          refine ⟨?_, hL1⟩
          rw [HE.out]
          exact ⟨18446744073709551615, .int .i64 1, by omega, by omega, .inl rfl, rfl⟩
      · by_cases hlet : 97 ≤ L ∧ L ≤ 102
        · obtain ⟨hd0, hd1⟩ := hlet
          have hdv : dv c = some (L - 87) := by unfold dv; rw [if_neg hdig, hL, if_pos ⟨hd0, hd1⟩]
          have ht : ¬ (48 ≤ c.toNat ∧ c.toNat ≤ 57) := hdig
          have h95n : c.toNat ≠ 95 := fun e => by
            rw [e] at hL
            have : orL 95 = 127 := by decide
            omega
          have h95 : ((c.toNat : Int) == 95) = false := by simp; omega
          have h95b : (c.toNat == 95) = false := by simp; omega
          have h95c : ¬ (c.toNat : Int) = 95 := by omega
          by_cases hov : acc < 1152921504606846976
          · have hF : ph acc (c :: bs.drop (k + 1)) = ph (acc * 16 + (L - 87)) (bs.drop (k + 1)) := by rw [ph, hdv]; simp only []; rw [if_pos hov]
            have HN : Hid (a * 16 + ((L : Int) - 97 + 10) = ((acc * 16 + (L - 87) : Nat) : Int) ∧ acc * 16 + (L - 87) ≤ 18446744073709551615 ∧ ph 0 bs = ph (acc * 16 + (L - 87)) (bs.drop (k + 1))) := Lib.hid ⟨by omega, by omega, hdec.trans hF⟩
            have icut : a < 1152921504606846976 := by omega
            have iov : a * 16 + ((L : Int) - 97 + 10) ≤ 18446744073709551615 := by omega
            clear hacc hF hov hdec ha hdv hL hdig
            go_wp2
            all_goals refine ⟨⟨k + 1, acc * 16 + (L - 87), a * 16 + ((L : Int) - 97 + 10), rfl, (by first | rfl | (congr 1; omega)), (by first | rfl | (congr 1; omega)), by omega, HN⟩, by simp [RowKit.intOf]; omega⟩
          · have hF : ph acc (c :: bs.drop (k + 1)) = none := by rw [ph, hdv]; simp only []; rw [if_neg hov]
            rw [hF] at hdec
            have HE : Hid (ph 0 bs = none) := Lib.hid hdec
            have icut : 1152921504606846976 ≤ a := by omega
            clear hacc hF hov ha hdec hdv hL hdig
            go_wp2
            all_goals go_ret2
            all_goals
              refine ⟨?_, hL1⟩
              rw [HE.out]
              exact ⟨18446744073709551615, .int .i64 1, by omega, by omega, .inl rfl, rfl⟩
        · have hdv : dv c = none := by unfold dv; rw [if_neg hdig, hL, if_neg hlet]
          have hF : ph acc (c :: bs.drop (k + 1)) = none := by rw [ph, hdv]
          rw [hF] at hdec
          have HE : Hid (ph 0 bs = none) := Lib.hid hdec
          clear hacc hF ha hdec hdv hL
          go_wp2
          all_goals go_ret2
          all_goals
            refine ⟨?_, hL1⟩
            rw [HE.out]
            exact ⟨0, .int .i64 2, by omega, by omega, .inr rfl, rfl⟩
    · have hkk : k = t.size := by omega
      subst hkk
      have hF : ph acc (bs.drop t.size) = some acc := by rw [List.drop_eq_nil_of_le (by omega)]; rfl
      rw [hF] at hdec
      have HE : Hid (ph 0 bs = some acc) := Lib.hid hdec
      subst ha
      clear hacc hF a0 a1 hdec
      go_wp2
      go_ret2
      refine ⟨?_, hL1⟩
      rw [HE.out]
      rfl
end Go.Proofs.YthohoendjipleaaGreatDoor
