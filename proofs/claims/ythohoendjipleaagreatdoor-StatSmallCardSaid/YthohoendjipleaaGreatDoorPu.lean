/-
  strconv.ParseUint at bases 10 and 16 and 64 bits: the number of a row of digits that fits, or a number and an error. Conditions: the text is shorter than 2^48 bytes; the two errors' variables hold what start-up code lays.
-/
import Derived.Test.YthohoendjipleaaGreatDoorShelf
import Derived.Test.YthohoendjipleaaGreatDoorPs
import Derived.Test.YthohoendjipleaaGreatDoorA
import Derived.Lib.Walk
import Derived.Lib.ConvBytes
import Derived.Lib.ParseIntBMem
import Derived.Laws.Strings3
import Derived.Laws.Closers25
import Derived.Laws.Closers25b
import Derived.Lib.IfaceEq
import Derived.Lib.AtoiErrMem
import Derived.Lib.Hide
namespace Go.Proofs.YthohoendjipleaaGreatDoor
open Go.RowKit Go.Sort Go.Lib
set_option linter.unusedSimpArgs false
set_option linter.unusedVariables false

/-- how ParseUint ends: the number, or a number and an error -/
def PuEnd (T : TypeId) (V : Value → Prop) (r : Option Nat) (e : Ending) : Prop :=
  match r with
  | some u => e = .returned (.tuple #[.int .u64 (u : Int), .nilIface])
  | none => ∃ (n : Int) (v : Value), 0 ≤ n ∧ n ≤ 18446744073709551615 ∧ V v ∧ e = .returned (.tuple #[.int .u64 n, .iface T v])

def Kind12 (v : Value) : Prop := v = .int .i64 1 ∨ v = .int .i64 2

set_option maxHeartbeats 32000000 in
set_option maxRecDepth 100000 in
theorem parse10_in (t : ByteArray) (hne : t.size ≠ 0) (hmax : t.size ≤ 9223372036854775806) (w : World) :
    Calls Tryz.prog 56 #[.string t, .int .i64 10, .int .i64 64] w fun e w' => PuEnd 123 Kind12 (nr 0 t.data.toList) e ∧ Later w w' := by
  have hemp : t.toList.isEmpty = false := by
    rw [← decide_eq_emptyBytes]
    exact decide_eq_false (fun h => hne (by rw [h]; rfl))
  have hcv := Lib.run_convert_string_bytes (P := Tryz.prog) w 9 86 5 t (u := .string) Tryz.underlying9 Tryz.underlying86 Tryz.underlying5
  have hB : ∀ j, j < t.size → (Lib.bytesWorld w 5 t).cell? ⟨w.heap.size, j, none⟩ = some (.int .u8 (t.data.toList.getD j 0).toNat) := fun j hj => Lib.bytesWorld_cell w 5 t j hj
  have hL1 : Later w (Lib.bytesWorld w 5 t) := Lib.bytesWorld_below w 5 t
  obtain ⟨W1, hW1⟩ : ∃ W1, W1 = Lib.bytesWorld w 5 t := ⟨_, rfl⟩
  rw [← hW1] at hcv hB hL1
  clear hW1
  obtain ⟨bs, hL⟩ : ∃ bs, bs = t.data.toList := ⟨_, rfl⟩
  have hLn : bs.length = t.size := by rw [hL, Lib.size_eq]
  rw [← hL] at hB ⊢
  clear hL
  have hmv : IntKind.u64.wrap (IntKind.u64.wrap 18446744073709551616 - 1) = 18446744073709551615 := by
    rw [IntKind.wrap_u64, IntKind.wrap_u64]
    decide
  go_enter Tryz.func56, Tryz.ntmps56
  go_wp2
  go_loop [12, 13, 101] (fun vu vn vi => ∃ (k acc : Nat) (a : Int), vu = .bool false ∧ vn = .int .u64 a ∧ vi = .int .i64 k ∧ k ≤ t.size ∧ Hid (a = (acc : Int) ∧ acc ≤ 18446744073709551615 ∧ nr 0 bs = nr acc (bs.drop k)))
    (fun _ _ vi => t.size - (RowKit.intOf vi).toNat)
  case atStart => exact ⟨0, 0, 0, rfl, rfl, rfl, by omega, rfl, by omega, rfl⟩
  case round =>
    obtain ⟨k, acc, a, rfl, rfl, rfl, hk, hh⟩ := hrel
    obtain ⟨ha, hacc, hdec⟩ := hh.out
    clear hh
    have a0 : 0 ≤ a := by omega
    have a1 : a ≤ 18446744073709551615 := by omega
    by_cases hkn : k < t.size
    · have hc := hB k hkn
      have hdrop : bs.drop k = bs[k]'(by omega) :: bs.drop (k + 1) := List.drop_eq_getElem_cons (by omega)
      have hget : bs.getD k 0 = bs[k]'(by omega) := by simp [List.getD, List.getElem?_eq_getElem (show k < bs.length by omega)]
      rw [hdrop] at hdec
      rw [hget] at hc
      generalize bs[k]'(by omega) = c at hc hdec
      have hc256 : c.toNat < 256 := c.toNat_lt
      clear hB hdrop hget
      by_cases hdig : 48 ≤ c.toNat ∧ c.toNat ≤ 57
      · obtain ⟨hd0, hd1⟩ := hdig
        by_cases hov : acc * 10 + (c.toNat - 48) ≤ 18446744073709551615
        · have hF : nr acc (c :: bs.drop (k + 1)) = nr (acc * 10 + (c.toNat - 48)) (bs.drop (k + 1)) := by simp [nr, hd0, hd1, hov]
          have HN : Hid (a * 10 + ((c.toNat : Int) - 48) = ((acc * 10 + (c.toNat - 48) : Nat) : Int) ∧ acc * 10 + (c.toNat - 48) ≤ 18446744073709551615 ∧ nr 0 bs = nr (acc * 10 + (c.toNat - 48)) (bs.drop (k + 1))) := Lib.hid ⟨by omega, by omega, hdec.trans hF⟩
          have icut : a < 1844674407370955162 := by omega
          have iov : a * 10 + ((c.toNat : Int) - 48) ≤ 18446744073709551615 := by omega
          clear hacc hF hov hdec ha
          go_wp2
          refine ⟨⟨k + 1, acc * 10 + (c.toNat - 48), a * 10 + ((c.toNat : Int) - 48), rfl, (by first | rfl | (congr 1; omega)), (by first | rfl | (congr 1; omega)), by omega, HN⟩, by simp [RowKit.intOf]; omega⟩
        · have hF : nr acc (c :: bs.drop (k + 1)) = none := by simp [nr, hov]
          rw [hF] at hdec
          have HE : Hid (nr 0 bs = none) := Lib.hid hdec
          by_cases hcut : 1844674407370955162 ≤ acc
          · have icut : 1844674407370955162 ≤ a := by omega
            clear hcut hacc hF hov ha hdec
            go_wp2
            go_ret2
            refine ⟨?_, hL1⟩
            rw [HE.out]
            exact ⟨18446744073709551615, .int .i64 1, by omega, by omega, .inl rfl, rfl⟩
          · have hw : 18446744073709551616 ≤ acc * 10 + (c.toNat - 48) := by omega
            · have icut : a < 1844674407370955162 := by omega
              have iov : 18446744073709551616 ≤ a * 10 + ((c.toNat : Int) - 48) := by omega
              have hwr : IntKind.u64.wrap (a * 10 + ((c.toNat : Int) - 48)) = a * 10 + ((c.toNat : Int) - 48) - 18446744073709551616 := by
                rw [IntKind.wrap_u64]
                omega
              clear hcut hacc hF hov ha hdec hw
              go_wp2
              go_ret2
              refine ⟨?_, hL1⟩
              rw [HE.out]
              exact ⟨18446744073709551615, .int .i64 1, by omega, by omega, .inl rfl, rfl⟩
      · have hF : nr acc (c :: bs.drop (k + 1)) = none := by
          rw [nr, if_neg (fun h => hdig ⟨h.1, h.2.1⟩)]
        rw [hF] at hdec
        have HE : Hid (nr 0 bs = none) := Lib.hid hdec
        clear hacc hF ha hdec
        have hv0 := bits_lo_u8 .or (c.toNat : Int) 32
        have hv1 := bits_hi_u8 .or (c.toNat : Int) 32
        have hu0 := bits_lo_u8 .or 95 32
        have hu1 := bits_hi_u8 .or 95 32
        go_wp2
        all_goals go_ret2
        all_goals
          refine ⟨?_, hL1⟩
          rw [HE.out]
          exact ⟨0, .int .i64 2, by omega, by omega, .inr rfl, rfl⟩
    · have hkk : k = t.size := by omega
      subst hkk
      have hF : nr acc (bs.drop t.size) = some acc := by rw [List.drop_eq_nil_of_le (by omega)]; rfl
      rw [hF] at hdec
      have HE : Hid (nr 0 bs = some acc) := Lib.hid hdec
      subst ha
      clear hacc hF a0 a1 hdec
      go_wp2
      go_ret2
      refine ⟨?_, hL1⟩
      rw [HE.out]
      rfl
end Go.Proofs.YthohoendjipleaaGreatDoor
