/-
  strconv.ParseUint at base 10 and 62 bits, as vword calls it. Conditions: the text is shorter than 2^48 bytes; the two errors' variables hold interface values.
-/
import Derived.Test.YtllcppdgamagoaaDoorShelf2
import Derived.Test.YtllcppdgamagoaaDoorH
namespace Go.Proofs.YtllcppdgamagoaaDoor
open Go.RowKit Go.Sort Go.Lib

/-- the two errors' variables hold interface values -/
def Errs (w : World) : Prop := (∃ t p, w.cell? ⟨0, 0, none⟩ = some (.iface t p)) ∧ ∃ t p, w.cell? ⟨1, 0, none⟩ = some (.iface t p)
theorem cell_later {w w' : World} {b : Nat} {v : Value} (h : w.cell? ⟨b, 0, none⟩ = some v) (hl : Later w w') : w'.cell? ⟨b, 0, none⟩ = some v :=
  (hl.reads.1 b 0 (Lib.lt_of_cell h)).trans h
theorem Errs.later {w w' : World} (h : Errs w) (hl : Later w w') : Errs w' := by
  obtain ⟨⟨t, p, h0⟩, t1, p1, h1⟩ := h
  exact ⟨⟨t, p, cell_later h0 hl⟩, t1, p1, cell_later h1 hl⟩

/-- what 62 bits hold of a text -/
def puAll (l : List UInt8) : Option Nat := if l = [] then none else pu 0 l

def AnyV (_ : Value) : Prop := True

set_option maxRecDepth 100000 in
theorem parseUint_inner (t : ByteArray) (hmax : t.size ≤ 9223372036854775806) (w : World) :
    Calls Tryd.prog 47 #[.string t, .int .i64 10, .int .i64 62] w fun e w' => PuEnd 60 Kind12 (puAll t.data.toList) e ∧ Later w w' := by
  by_cases h0 : t.size = 0
  · have ht : t = ⟨#[]⟩ := by
      apply ByteArray.ext
      exact Array.eq_empty_of_size_eq_zero h0
    subst ht
    clear h0 hmax
    go_enter Tryd.func47, Tryd.ntmps47
    go_wp2
    go_ret2
    exact ⟨⟨0, .int .i64 2, by omega, by omega, .inr rfl, rfl⟩, Later.refl _⟩
  · have hne : t.data.toList ≠ [] := fun h => h0 (by rw [Lib.size_eq, h]; rfl)
    refine (parseUint_in t h0 hmax w).mono fun e w' ⟨he, hw⟩ => ⟨?_, hw⟩
    rw [puAll, if_neg hne]
    exact he

set_option maxRecDepth 100000 in
theorem parseUint_any (s : ByteArray) (hlim : s.size ≤ 281474976710656) (w : World) (he : Errs w) :
    Calls Tryd.prog 40 #[.string s, .int .i64 10, .int .i64 62] w fun e w' => PuEnd 63 AnyV (puAll s.data.toList) e ∧ Later w w' := by
  have hI := parseUint_inner s (by omega) w
  cases hr : puAll s.data.toList with
  | some u =>
    rw [hr] at hI
    clear hr
    go_enter Tryd.func40, Tryd.ntmps40
    go_wp2_with fail
    refine hI.mono ?_
    rintro e w1 ⟨rfl, hb1⟩
    go_wp2_with fail
    go_ret2
    exact ⟨rfl, hb1⟩
  | none =>
    rw [hr] at hI
    clear hr
    go_enter Tryd.func40, Tryd.ntmps40
    go_wp2_with fail
    refine hI.mono ?_
    rintro e w1 ⟨⟨n, v, hn0, hn1, hv, rfl⟩, hb1⟩
    obtain ⟨⟨t0, p0, e0⟩, t1, p1, e1⟩ := he.later hb1
    rcases hv with rfl | rfl
    · go_wp2_with fail
      refine (Tryd.strconv_toError_range _ s _ _ _ _ hlim e1 (.inr ⟨t1, p1, rfl⟩)).mono ?_
      rintro e w2 ⟨N, rfl, hN, hc, hb2⟩
      go_wp2_with fail
      go_ret2
      exact ⟨⟨n, _, hn0, hn1, trivial, rfl⟩, hb1.trans hb2⟩
    · go_wp2_with fail
      refine (Tryd.strconv_toError_syntax _ s _ _ _ _ hlim e0 (.inr ⟨t0, p0, rfl⟩)).mono ?_
      rintro e w2 ⟨N, rfl, hN, hc, hb2⟩
      go_wp2_with fail
      go_ret2
      exact ⟨⟨n, _, hn0, hn1, trivial, rfl⟩, hb1.trans hb2⟩
end Go.Proofs.YtllcppdgamagoaaDoor
