/-
  strconv.ParseUint as stat calls it; stat's part; math.Signbit. Conditions: the text is shorter than 2^47 bytes; the two errors' variables hold interface values.
-/
import Derived.Test.YthohoendjipleaaGreatDoorPu2
import Derived.Test.YthohoendjipleaaGreatDoorV
import Derived.Lib.QuietBelow
import Derived.Lib.Case
namespace Go.Proofs.YthohoendjipleaaGreatDoor
open Go.RowKit Go.Sort Go.Lib
set_option linter.unusedSimpArgs false
set_option linter.unusedVariables false

theorem mixedZ : Tryz.prog.follows .mixedOrders = true := by kernel_rfl
/-- the two errors' variables hold interface values -/
def Errs (w : World) : Prop := (∃ t p, w.cell? ⟨1, 0, none⟩ = some (.iface t p)) ∧ ∃ t p, w.cell? ⟨2, 0, none⟩ = some (.iface t p)
theorem Errs.later {w w' : World} (h : Errs w) (hl : Later w w') : Errs w' := by
  obtain ⟨⟨t, p, h0⟩, t1, p1, h1⟩ := h
  exact ⟨⟨t, p, cell_at hl h0 (block_lt_of_cell h0)⟩, t1, p1, cell_at hl h1 (block_lt_of_cell h1)⟩
def AnyV (_ : Value) : Prop := True
def nrAll (l : List UInt8) : Option Nat := if l = [] then none else nr 0 l
def phAll (l : List UInt8) : Option Nat := if l = [] then none else ph 0 l
set_option maxRecDepth 100000 in
theorem parse10_inner (t : ByteArray) (hmax : t.size ≤ 9223372036854775806) (w : World) :
    Calls Tryz.prog 56 #[.string t, .int .i64 10, .int .i64 64] w fun e w' => PuEnd 123 Kind12 (nrAll t.data.toList) e ∧ Later w w' := by
  by_cases h0 : t.size = 0
  · have ht : t = ⟨#[]⟩ := by
      apply ByteArray.ext
      exact Array.eq_empty_of_size_eq_zero h0
    subst ht
    clear h0 hmax
    go_enter Tryz.func56, Tryz.ntmps56
    go_wp2
    go_ret2
    exact ⟨⟨0, .int .i64 2, by omega, by omega, .inr rfl, rfl⟩, Later.refl _⟩
  · have hne : t.data.toList ≠ [] := fun h => h0 (by rw [Lib.size_eq, h]; rfl)
    refine (parse10_in t h0 hmax w).mono fun e w' ⟨he, hw⟩ => ⟨?_, hw⟩
    rw [nrAll, if_neg hne]
    exact he

set_option maxRecDepth 100000 in
theorem parse10_any (s : ByteArray) (hlim : s.size ≤ 281474976710656) (w : World) (he : Errs w) :
    Calls Tryz.prog 33 #[.string s, .int .i64 10, .int .i64 64] w fun e w' => PuEnd 125 AnyV (nrAll s.data.toList) e ∧ Later w w' := by
  have hI := parse10_inner s (by omega) w
  cases hr : nrAll s.data.toList with
  | some u =>
    rw [hr] at hI
    clear hr
    go_enter Tryz.func33, Tryz.ntmps33
    go_wp2_with fail
    refine hI.mono ?_
    rintro e w1 ⟨rfl, hb1⟩
    go_wp2_with fail
    go_ret2
    exact ⟨rfl, hb1⟩
  | none =>
    rw [hr] at hI
    clear hr
    go_enter Tryz.func33, Tryz.ntmps33
    go_wp2_with fail
    refine hI.mono ?_
    rintro e w1 ⟨⟨n, v, hn0, hn1, hv, rfl⟩, hb1⟩
    obtain ⟨⟨t0, p0, e0⟩, t1, p1, e1⟩ := he.later hb1
    rcases hv with rfl | rfl
    · go_wp2_with fail
      refine (Tryz.strconv_toError_range _ s _ _ _ _ hlim e1 (.inr ⟨t1, p1, rfl⟩)).mono ?_
      rintro e w2 ⟨N, rfl, hN, hc, hb2⟩
      go_wp2_with fail
      go_ret2
      exact ⟨⟨n, _, hn0, hn1, trivial, rfl⟩, hb1.trans hb2⟩
    · go_wp2_with fail
      refine (Tryz.strconv_toError_syntax _ s _ _ _ _ hlim e0 (.inr ⟨t0, p0, rfl⟩)).mono ?_
      rintro e w2 ⟨N, rfl, hN, hc, hb2⟩
      go_wp2_with fail
      go_ret2
      exact ⟨⟨n, _, hn0, hn1, trivial, rfl⟩, hb1.trans hb2⟩
set_option maxRecDepth 100000 in
theorem parse16_inner (t : ByteArray) (hmax : t.size ≤ 9223372036854775806) (w : World) :
    Calls Tryz.prog 56 #[.string t, .int .i64 16, .int .i64 64] w fun e w' => PuEnd 123 Kind12 (phAll t.data.toList) e ∧ Later w w' := by
  by_cases h0 : t.size = 0
  · have ht : t = ⟨#[]⟩ := by
      apply ByteArray.ext
      exact Array.eq_empty_of_size_eq_zero h0
    subst ht
    clear h0 hmax
    go_enter Tryz.func56, Tryz.ntmps56
    go_wp2
    go_ret2
    exact ⟨⟨0, .int .i64 2, by omega, by omega, .inr rfl, rfl⟩, Later.refl _⟩
  · have hne : t.data.toList ≠ [] := fun h => h0 (by rw [Lib.size_eq, h]; rfl)
    refine (parse16_in t h0 hmax w).mono fun e w' ⟨he, hw⟩ => ⟨?_, hw⟩
    rw [phAll, if_neg hne]
    exact he

set_option maxRecDepth 100000 in
theorem parse16_any (s : ByteArray) (hlim : s.size ≤ 281474976710656) (w : World) (he : Errs w) :
    Calls Tryz.prog 33 #[.string s, .int .i64 16, .int .i64 64] w fun e w' => PuEnd 125 AnyV (phAll s.data.toList) e ∧ Later w w' := by
  have hI := parse16_inner s (by omega) w
  cases hr : phAll s.data.toList with
  | some u =>
    rw [hr] at hI
    clear hr
    go_enter Tryz.func33, Tryz.ntmps33
    go_wp2_with fail
    refine hI.mono ?_
    rintro e w1 ⟨rfl, hb1⟩
    go_wp2_with fail
    go_ret2
    exact ⟨rfl, hb1⟩
  | none =>
    rw [hr] at hI
    clear hr
    go_enter Tryz.func33, Tryz.ntmps33
    go_wp2_with fail
    refine hI.mono ?_
    rintro e w1 ⟨⟨n, v, hn0, hn1, hv, rfl⟩, hb1⟩
    obtain ⟨⟨t0, p0, e0⟩, t1, p1, e1⟩ := he.later hb1
    rcases hv with rfl | rfl
    · go_wp2_with fail
      refine (Tryz.strconv_toError_range _ s _ _ _ _ hlim e1 (.inr ⟨t1, p1, rfl⟩)).mono ?_
      rintro e w2 ⟨N, rfl, hN, hc, hb2⟩
      go_wp2_with fail
      go_ret2
      exact ⟨⟨n, _, hn0, hn1, trivial, rfl⟩, hb1.trans hb2⟩
    · go_wp2_with fail
      refine (Tryz.strconv_toError_syntax _ s _ _ _ _ hlim e0 (.inr ⟨t0, p0, rfl⟩)).mono ?_
      rintro e w2 ⟨N, rfl, hN, hc, hb2⟩
      go_wp2_with fail
      go_ret2
      exact ⟨⟨n, _, hn0, hn1, trivial, rfl⟩, hb1.trans hb2⟩
theorem frombits_run (x : Nat) (w : World) : (callFunc 45 #[.int .u64 (x : Int)]).run Tryz.prog w = .ok (.value (.float .f64 x)) w := by
  rw [run_callFunc_extern Tryz.func45 (by kernel_rfl) (by kernel_rfl) (by kernel_rfl) (e := Extern.MathFloatBits.float64frombits) (by kernel_rfl)]
  rfl
theorem bits_run (x : Nat) (w : World) : (callFunc 60 #[.float .f64 x]).run Tryz.prog w = .ok (.value (.int .u64 (x : Int))) w := by
  rw [run_callFunc_extern Tryz.func60 (by kernel_rfl) (by kernel_rfl) (by kernel_rfl) (e := Extern.MathFloatBits.float64bits) (by kernel_rfl)]
  rfl
theorem signbit_is (x : Nat) (hx : x < 18446744073709551616) (w : World) : Calls Tryz.prog 36 #[.float .f64 x] w fun e w' => e = .returned (.bool (decide (9223372036854775808 ≤ x))) ∧ w = w' := by
  have hb := bits_run x
  by_cases h : 9223372036854775808 ≤ x
  · have hw : wrap64 (x : Int) = (x : Int) - 18446744073709551616 := by unfold wrap64; omega
    have hd : decide ((x : Int) - 18446744073709551616 < 0) = true := by simp; omega
    rw [decide_eq_true h]
    have HX := Lib.hid (And.intro h hx)
    clear h hx
    go_enter Tryz.func36, Tryz.ntmps36
    go_wp2_with fail
    go_ret
    exact ⟨rfl, rfl⟩
  · have hw : wrap64 (x : Int) = (x : Int) := by unfold wrap64; omega
    have hd : decide ((x : Int) < 0) = false := by simp
    rw [decide_eq_false h]
    have HX := Lib.hid (And.intro h hx)
    clear h hx
    go_enter Tryz.func36, Tryz.ntmps36
    go_wp2_with fail
    go_ret
    exact ⟨rfl, rfl⟩
/-! ### part -/
set_option maxRecDepth 100000 in
set_option maxHeartbeats 1000000 in
theorem part_err (S : ByteArray) (hlim : S.size ≤ 140737488355328) (hr : phAll S.data.toList = none) (w : World) (he : Errs w) :
    Calls Tryz.prog 35 #[.string S] w fun e w' => (∃ f : Nat, f < 18446744073709551616 ∧ e = .returned (.tuple #[.float .f64 f, .bool false])) ∧ Later w w' := by
  have HC := Lib.hid (fun w he => parse16_any S (by omega) w he)
  rw [hr] at HC
  clear hr
  go_enter Tryz.func35, Tryz.ntmps35
  go_wp2_with fail
  refine (HC.out _ he).mono ?_
  rintro e w1 ⟨⟨n, v, hn0, hn1, _, rfl⟩, hl1⟩
  obtain ⟨u, rfl⟩ : ∃ u : Nat, n = (u : Int) := ⟨n.toNat, by omega⟩
  have hf := frombits_run u
  have hu : u < 18446744073709551616 := by omega
  clear hn0 hn1
  have HU := Lib.hid (And.intro hu (And.intro hl1 hlim))
  clear hu hl1 hlim
  have hne : ∀ W : World, (binOp .eql 77 (.iface 125 v) .nilIface).run Tryz.prog W = .ok (.bool false) W := fun W => by rfl
  go_wp2_with fail
  refine wp_region_quiet_below mixedZ (by kernel_rfl) ?_
  repeat ((with_reducible refine wpQuiet_step (fun K hK => ?_)); go_simp; first | ((with_reducible refine hK _ ?_); clear hK K))
  with_reducible refine wpQuiet_nil ?_
  intro w5 hw5
  have hl5 : Later w1 w5 := by obtain ⟨p, rfl⟩ := hw5; exact below_regrown w1 p.d p.os
  clear hw5
  go_wp2_with fail
  go_ret2
  exact ⟨⟨u, HU.out.1, rfl⟩, HU.out.2.1.trans hl5⟩
set_option maxRecDepth 100000 in
set_option maxHeartbeats 1000000 in
theorem part_short (S : ByteArray) (hlim : S.size ≤ 140737488355328) (u : Nat) (hr : phAll S.data.toList = some u) (hs : S.size ≠ 16) (w : World) (he : Errs w) :
    Calls Tryz.prog 35 #[.string S] w fun e w' => e = .returned (.tuple #[.float .f64 u, .bool false]) ∧ Later w w' := by
  have HC := Lib.hid (fun w he => parse16_any S (by omega) w he)
  rw [hr] at HC
  clear hr
  have hf := frombits_run u
  have hs1 : ((S.size : Int) == 16) = false := by simp; omega
  have hs2 : (S.size == 16) = false := by simp; omega
  have HU := Lib.hid (And.intro hlim hs)
  clear hlim hs
  go_enter Tryz.func35, Tryz.ntmps35
  go_wp2_with fail
  refine (HC.out _ he).mono ?_
  rintro e w1 ⟨rfl, hl1⟩
  have hne : ∀ W : World, (binOp .eql 77 .nilIface .nilIface).run Tryz.prog W = .ok (.bool true) W := fun W => by rfl
  go_wp2_with fail
  refine wp_region_quiet_below mixedZ (by kernel_rfl) ?_
  repeat ((with_reducible refine wpQuiet_step (fun K hK => ?_)); go_simp; first | ((with_reducible refine hK _ ?_); clear hK K))
  with_reducible refine wpQuiet_nil ?_
  intro w5 hw5
  have hl5 : Later w1 w5 := by obtain ⟨p, rfl⟩ := hw5; exact below_regrown w1 p.d p.os
  clear hw5
  go_wp2_with fail
  go_ret2
  exact ⟨rfl, hl1.trans hl5⟩
set_option maxRecDepth 100000 in
set_option maxHeartbeats 1000000 in
theorem part_16 (S Z : ByteArray) (u : Nat) (b : Bool) (hr : phAll S.data.toList = some u) (hs : S.size = 16) (hlow : ∀ w, Calls Tryz.prog 59 #[.string S] w fun e w' => e = .returned (.string Z) ∧ Later w w') (hb : (S.toList == Z.toList) = b) (w : World) (he : Errs w) :
    Calls Tryz.prog 35 #[.string S] w fun e w' => e = .returned (.tuple #[.float .f64 u, .bool b]) ∧ Later w w' := by
  have HC := Lib.hid (fun w he => parse16_any S (by rw [hs]; omega) w he)
  rw [hr] at HC
  clear hr
  have hf := frombits_run u
  have hs1 : ((S.size : Int) == 16) = true := by rw [hs]; rfl
  have hs2 : (S.size == 16) = true := by rw [hs]; rfl
  have HU := Lib.hid hs
  clear hs
  go_enter Tryz.func35, Tryz.ntmps35
  go_wp2_with fail
  refine (HC.out _ he).mono ?_
  rintro e w1 ⟨rfl, hl1⟩
  have hne : ∀ W : World, (binOp .eql 77 .nilIface .nilIface).run Tryz.prog W = .ok (.bool true) W := fun W => by rfl
  have c1 := fun d os => quiet_later (hlow (grow (redrawn w1 d) os))
  go_wp2_with fail
  refine wp_region_quiet_below mixedZ (by kernel_rfl) ?_
  repeat ((with_reducible refine wpQuiet_step (fun K hK => ?_)); go_simp; first | ((with_reducible refine hK _ ?_); clear hK K) | (apply Exists.intro; refine ⟨fun _ => ?_, hK _ ?_⟩; (with_reducible exact c1 _ _); clear hK K))
  with_reducible refine wpQuiet_nil ?_
  intro w5 hw5
  have hl5 : Later w1 w5 := by obtain ⟨p, rfl⟩ := hw5; exact below_regrown w1 p.d p.os
  clear hw5
  go_wp2_with fail
  go_ret2
  exact ⟨rfl, hl1.trans hl5⟩
end Go.Proofs.YthohoendjipleaaGreatDoor
