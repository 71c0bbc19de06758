/-
  The reference's number: the decimal digits. Conditions: the number fits in 63 bits.
-/
import Derived.Test.YtpfnccjfmbecfaaDoorE
import Derived.Shelf.Small.Wraps
import Derived.Lib.ItoaMem
import Derived.Lib.AppendIntMem
import Derived.Lib.ConvBytes
namespace Go.Proofs.YtpfnccjfmbecfaaDoor
open Go.RowKit Go.Sort Go.Lib

theorem str_app (l m : List UInt8) : (⟨l.toArray⟩ : ByteArray) ++ ⟨m.toArray⟩ = ⟨(l ++ m).toArray⟩ := by
  apply ByteArray.ext
  simp
theorem digits_le (u : Nat) (hu : u < 18446744073709551616) : (Lib.decDigits u).length ≤ 20 := by
  rw [Lib.decDigits_length]
  by_cases h0 : u = 0
  · subst h0; rw [Lib.nDigits_small (by omega)]; omega
  · have := Lib.numDigits_eq u (by omega) hu; split at this <;> omega

set_option maxRecDepth 100000 in
theorem number_is (u : Nat) (hu : u < 9223372036854775808) : ∀ w : World, Calls Tryd.prog 42 #[.int .i64 u] w fun e w' => e = .returned (.string ⟨(Lib.decDigits u).toArray⟩) ∧ Later w w' := by
  induction u using Nat.strongRecOn with
  | ind u ih =>
    intro w
    obtain ⟨n, hn⟩ : ∃ n : Int, n = (u : Int) := ⟨_, rfl⟩
    rw [← hn]
    have n0 : 0 ≤ n := by omega
    have n1 : n ≤ 9223372036854775807 := by omega
    have hcv : ∀ w : World, (convert 70 9 (.slice (some ⟨w.heap.size, 0, none⟩) 1 1)).run Tryd.prog (w.alloc (.cells #[.int .u8 (48 + n % 10)] 5)) = .ok (.string ⟨[UInt8.ofNat (48 + u % 10)].toArray⟩) (w.alloc (.cells #[.int .u8 (48 + n % 10)] 5)) := fun w => by
      refine run_convert_bytes_back (P := Tryd.prog) (w.alloc (.cells #[.int .u8 (48 + n % 10)] 5)) 70 9 5 ⟨w.heap.size, 0, none⟩ 1 [UInt8.ofNat (48 + u % 10)] Tryd.underlying70 Tryd.underlying5 Tryd.underlying9 (fun j hj => ?_)
      obtain rfl : j = 0 := by simpa using hj
      simp [Addr.add, hn]
      omega
    have HN := Lib.hid hn
    have HI := Lib.hid ih
    clear hn ih
    by_cases h10 : n ≤ 9
    · have hc : ¬ (9 : Int) < n := by omega
      have ed : [UInt8.ofNat (48 + u % 10)] = Lib.decDigits u := by
        have := HN.out
        rw [Lib.decDigits, dif_pos (by omega), Nat.mod_eq_of_lt (by omega)]
      rw [← ed]
      clear hu ed
      go_enter Tryd.func42, Tryd.ntmps42
      go_wp2_with fail
      go_ret
      exact ⟨rfl, by repeat (first | exact Later.refl _ | assumption | apply Later.alloc | apply Later.drew | apply Later.drewN | refine Later.trans ?_ (by assumption))⟩
    · have hq : n / 10 = ((u / 10 : Nat) : Int) := by have := HN.out; omega
      have hl := digits_le (u / 10) (by omega)
      have ed : Lib.decDigits u = Lib.decDigits (u / 10) ++ [UInt8.ofNat (48 + u % 10)] := by
        have := HN.out
        rw [Lib.decDigits, dif_neg (by omega)]
      rw [ed, ← str_app]
      have IH := Lib.hid (show ∀ w : World, Calls Tryd.prog 42 #[.int .i64 (n / 10)] w fun e w' => e = .returned (.string ⟨(Lib.decDigits (u / 10)).toArray⟩) ∧ Later w w' by
        rw [hq]; exact HI.out (u / 10) (by have := HN.out; omega) (by omega))
      obtain ⟨L, hL⟩ : ∃ L, L = (⟨(Lib.decDigits (u / 10)).toArray⟩ : ByteArray) := ⟨_, rfl⟩
      have hLs : L.size ≤ 20 := by rw [hL]; exact hl
      rw [← hL] at IH ⊢
      obtain ⟨D, hD⟩ : ∃ D, D = (⟨[UInt8.ofNat (48 + u % 10)].toArray⟩ : ByteArray) := ⟨_, rfl⟩
      have hDs : D.size = 1 := by rw [hD]; rfl
      rw [← hD] at hcv ⊢
      have hcat : ¬ 9223372036854775807 < L.size + D.size := by omega
      clear hl ed hq hu hL hD
      go_enter Tryd.func42, Tryd.ntmps42
      go_wp2_with fail
      refine (IH.out _).mono ?_
      rintro e w1 ⟨rfl, hb1⟩
      go_wp2_with fail
      go_ret
      exact ⟨rfl, by repeat (first | exact Later.refl _ | assumption | apply Later.alloc | apply Later.drew | apply Later.drewN | refine Later.trans ?_ (by assumption))⟩
end Go.Proofs.YtpfnccjfmbecfaaDoor
