/-
  Package stat: the digits of a part of a load. Conditions: the tables read as the program's text lays them; the part is a positive finite number.
-/
import Derived.Test.YthohoendjipleaaGreatDoorG
import Derived.Test.YthohoendjipleaaGreatDoorFx
import Derived.Lib.Repeat
namespace Go.Proofs.YthohoendjipleaaGreatDoor
open Go.RowKit

theorem hexL_pad (u k : Nat) (h : u < 16 ^ k) (hk : k ≤ 16) : List.replicate (16 - k) 48 ++ hexL u k = hexL u 16 := by
  apply List.ext_getElem?
  intro j
  by_cases h1 : j < 16 - k
  · rw [List.getElem?_append_left (by simpa using h1), hexL_get u 16 j (by omega), List.getElem?_replicate, if_pos h1]
    have : u / 16 ^ (16 - 1 - j) = 0 := by
      apply Nat.div_eq_of_lt
      exact Nat.lt_of_lt_of_le h (Nat.pow_le_pow_right (by omega) (by omega))
    rw [this]; rfl
  · rw [List.getElem?_append_right (by simpa using h1), List.length_replicate]
    by_cases h2 : j < 16
    · rw [hexL_get u 16 j h2, hexL_get u k _ (by omega), show k - 1 - (j - (16 - k)) = 16 - 1 - j by omega]
    · rw [List.getElem?_eq_none (by rw [hexL_length]; omega), List.getElem?_eq_none (by rw [hexL_length]; omega)]
theorem repeat_48 (n : Nat) : Lib.repeatL [48] n = List.replicate n 48 := by
  induction n with
  | zero => rfl
  | succ n ih => rw [Lib.repeatL, ih]; rfl
theorem str_app (l m : List UInt8) : (⟨l.toArray⟩ : ByteArray) ++ ⟨m.toArray⟩ = ⟨(l ++ m).toArray⟩ := by
  apply ByteArray.ext
  simp
set_option maxRecDepth 100000 in
set_option maxHeartbeats 1000000 in
theorem digits_is (a : Nat) (ha : a < 9218868437227405312) (w : World) (hE : Env w) :
    Calls Tryz.prog 38 #[.float .f64 a] w fun e w' => e = .returned (.string ⟨(hexL a 16).toArray⟩) ∧ Later w w' := by
  have hs : ∀ w : World, (binOp .add 81 (.float .f64 a) (.float .f64 0)).run Tryz.prog w = .ok (.float .f64 a) w := fun w => run_float_arith w .add 81 .f64 a _ a (add0_eq a ha)
  have hb : ∀ w : World, (callFunc 60 #[.float .f64 a]).run Tryz.prog w = .ok (.value (.int .u64 (a : Int))) w := fun w => by
    rw [run_callFunc_extern Tryz.func60 (by kernel_rfl) (by kernel_rfl) (by kernel_rfl) (e := Extern.MathFloatBits.float64bits) (by kernel_rfl)]
    rfl
  have HE := Lib.hid hE
  clear hE
  go_enter Tryz.func38, Tryz.ntmps38
  go_wp2_with fail
  refine (formatHex_is a (by omega) _ HE.out).mono ?_
  rintro e w1 ⟨k, ⟨hk1, hk2, hk3⟩, rfl, hb1⟩
  have hsz : (⟨(hexL a k).toArray⟩ : ByteArray).size = k := by
    show (hexL a k).toArray.size = k
    rw [List.size_toArray, hexL_length]
  have hpad : (⟨(Lib.repeatL [48] (16 - k)).toArray⟩ : ByteArray) ++ ⟨(hexL a k).toArray⟩ = ⟨(hexL a 16).toArray⟩ := by
    rw [str_app, repeat_48, hexL_pad a k hk3 hk2]
  have hsr : (⟨(Lib.repeatL [48] (16 - k)).toArray⟩ : ByteArray).size ≤ 16 := by
    show (Lib.repeatL [48] (16 - k)).toArray.size ≤ 16
    rw [List.size_toArray, repeat_48, List.length_replicate]; omega
  have hrep : ∀ w, Calls Tryz.prog 62 #[.string ⟨#[48]⟩, .int .i64 (16 - (k : Int))] w fun e w' => e = .returned (.string ⟨(Lib.repeatL [48] (16 - k)).toArray⟩) ∧ Later w w' := fun w => by
    rw [show (16 : Int) - (k : Int) = ((16 - k : Nat) : Int) by omega]
    exact Tryz.strings_Repeat ⟨#[48]⟩ (16 - k) w (by omega) (by show 1 * (16 - k) ≤ _; omega)
  obtain ⟨H, hH⟩ : ∃ H : ByteArray, (⟨(hexL a k).toArray⟩ : ByteArray) = H := ⟨_, rfl⟩
  obtain ⟨R, hR⟩ : ∃ R : ByteArray, (⟨(Lib.repeatL [48] (16 - k)).toArray⟩ : ByteArray) = R := ⟨_, rfl⟩
  rw [hH] at hsz hpad ⊢
  rw [hR] at hsr hpad hrep
  have hk16 : (k : Int) ≤ 16 := by omega
  have HP := Lib.hid hpad
  have HR := Lib.hid hrep
  have hcat : ¬ 9223372036854775807 < R.size + H.size := by omega
  clear hpad hk3 ha hrep hH hR
  go_wp2_with fail
  refine (HR.out _).mono ?_
  rintro e w2 ⟨rfl, hb2⟩
  go_wp2_with fail
  go_ret
  exact ⟨by rw [HP.out]; rfl, by repeat (first | exact Later.refl _ | assumption | apply Later.alloc | apply Later.drew | apply Later.drewN | refine Later.trans ?_ (by assumption))⟩
end Go.Proofs.YthohoendjipleaaGreatDoor
