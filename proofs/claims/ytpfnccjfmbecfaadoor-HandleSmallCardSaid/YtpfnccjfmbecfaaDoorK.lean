/-
  strconv.ParseUint at base 10, at 8 and at 32 bits, as handle.Read calls it. Conditions: the text is shorter than 2^48 bytes; the two errors' variables hold interface values.
-/
import Derived.Test.YtpfnccjfmbecfaaDoorJ
import Derived.Lib.AtoiErrMem
namespace Go.Proofs.YtpfnccjfmbecfaaDoor
open Go.RowKit Go.Sort Go.Lib

/-- the two errors' variables hold interface values -/
def Errs (w : World) : Prop := (∃ t p, w.cell? ⟨0, 0, none⟩ = some (.iface t p)) ∧ ∃ t p, w.cell? ⟨1, 0, none⟩ = some (.iface t p)
theorem cell_later {w w' : World} {b : Nat} {v : Value} (h : w.cell? ⟨b, 0, none⟩ = some v) (hl : Later w w') : w'.cell? ⟨b, 0, none⟩ = some v :=
  (hl.reads.1 b 0 (Lib.lt_of_cell h)).trans h
theorem Errs.later {w w' : World} (h : Errs w) (hl : Later w w') : Errs w' := by
  obtain ⟨⟨t, p, h0⟩, t1, p1, h1⟩ := h
  exact ⟨⟨t, p, cell_later h0 hl⟩, t1, p1, cell_later h1 hl⟩

/-- a number of at most M, the text's own if the text is a number's -/
def PuNum (M : Nat) (l : List UInt8) (v : Nat) : Prop := v ≤ M ∧ ∀ u : Nat, l = Lib.decDigits u → u ≤ M → v = u
def PuRes (M : Nat) (l : List UInt8) (e : Ending) : Prop := ∃ (v : Nat) (x : Value), e = .returned (.tuple #[.int .u64 v, x]) ∧ PuNum M l v

theorem later_bytes (w : World) (t : TypeId) (s : ByteArray) : Later w (Lib.bytesWorld w t s) := Lib.bytesWorld_below w t s

theorem pu8_is (s : ByteArray) (hlim : s.size ≤ 1000) (w : World) (he : Errs w) :
    Calls Tryd.prog 23 #[.string s, .int .i64 10, .int .i64 8] w fun e w' => PuRes 255 s.data.toList e ∧ Later w w' := by
  obtain ⟨⟨t0, p0, c0⟩, t1, p1, c1⟩ := he
  rcases hp : Lib.parseUintB 8 s.data.toList with u | _ | _
  · refine (Tryd.strconv_ParseUint_10_at8_ok s (by omega) u hp w).mono ?_
    rintro e w' ⟨rfl, hw⟩
    refine ⟨⟨u, _, rfl, Lib.parseUintB_le hp, fun n hn hle => ?_⟩, ?_⟩
    · rw [hn, pb_digits8 n hle] at hp
      injection hp with hp
      exact hp.symm
    · rcases hw with rfl | rfl
      · exact Later.refl _
      · exact later_bytes _ _ _
  · refine (Any.strconv_ParseUint_10_at8_syntax Tryd.laysPu14 s (by omega) hp _ w c0 (.inr ⟨_, _, rfl⟩)).mono ?_
    rintro e w' ⟨N, rfl, _, _, hb⟩
    refine ⟨⟨0, _, rfl, by omega, fun n hn hle => ?_⟩, hb⟩
    rw [hn, pb_digits8 n hle] at hp
    cases hp
  · refine (Any.strconv_ParseUint_10_at8_range Tryd.laysPu14 s (by omega) hp _ w c1 (.inr ⟨_, _, rfl⟩)).mono ?_
    rintro e w' ⟨N, rfl, _, _, hb⟩
    refine ⟨⟨255, _, rfl, by omega, fun n hn hle => ?_⟩, hb⟩
    rw [hn, pb_digits8 n hle] at hp
    cases hp
theorem pu32_is (s : ByteArray) (hlim : s.size ≤ 1000) (w : World) (he : Errs w) :
    Calls Tryd.prog 23 #[.string s, .int .i64 10, .int .i64 32] w fun e w' => PuRes 4294967295 s.data.toList e ∧ Later w w' := by
  obtain ⟨⟨t0, p0, c0⟩, t1, p1, c1⟩ := he
  rcases hp : Lib.parseUintB 32 s.data.toList with u | _ | _
  · refine (Tryd.strconv_ParseUint_10_at32_ok s (by omega) u hp w).mono ?_
    rintro e w' ⟨rfl, hw⟩
    refine ⟨⟨u, _, rfl, Lib.parseUintB_le hp, fun n hn hle => ?_⟩, ?_⟩
    · rw [hn, pb_digits32 n hle] at hp
      injection hp with hp
      exact hp.symm
    · rcases hw with rfl | rfl
      · exact Later.refl _
      · exact later_bytes _ _ _
  · refine (Any.strconv_ParseUint_10_at32_syntax Tryd.laysPu14 s (by omega) hp _ w c0 (.inr ⟨_, _, rfl⟩)).mono ?_
    rintro e w' ⟨N, rfl, _, _, hb⟩
    refine ⟨⟨0, _, rfl, by omega, fun n hn hle => ?_⟩, hb⟩
    rw [hn, pb_digits32 n hle] at hp
    cases hp
  · refine (Any.strconv_ParseUint_10_at32_range Tryd.laysPu14 s (by omega) hp _ w c1 (.inr ⟨_, _, rfl⟩)).mono ?_
    rintro e w' ⟨N, rfl, _, _, hb⟩
    refine ⟨⟨4294967295, _, rfl, by omega, fun n hn hle => ?_⟩, hb⟩
    rw [hn, pb_digits32 n hle] at hp
    cases hp
end Go.Proofs.YtpfnccjfmbecfaaDoor
