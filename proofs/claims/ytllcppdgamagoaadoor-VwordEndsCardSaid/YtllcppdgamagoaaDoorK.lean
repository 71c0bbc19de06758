/-
  vword.Parse: the text of a word gives the word, any other text an error. Conditions: the text is shorter than 2^48 bytes; the table and the errors' variables hold what start-up code lays.
-/
import Derived.Test.YtllcppdgamagoaaDoorJ
import Derived.Test.YtllcppdgamagoaaDoorE
namespace Go.Proofs.YtllcppdgamagoaaDoor
open Go.RowKit Go.Sort Go.Lib

theorem size_mk (l : List UInt8) : (⟨l.toArray⟩ : ByteArray).size = l.length := by simp [ByteArray.size]
theorem trim_len (l m : List UInt8) : (Lib.trimSuffix l m).length ≤ l.length := by
  unfold Lib.trimSuffix; split <;> simp

theorem cut_is (s : ByteArray) (x : UInt8) (l : List UInt8) (b : Bool) (w : World) (hs : s.size ≤ 9223372036854775807) (h1 : Lib.trimSuffix s.data.toList [x] = l) (h2 : Lib.hasSuffix s.data.toList [x] = b) :
    Calls Tryd.prog 39 #[.string s, .string ⟨#[x]⟩] w fun e w' => e = .returned (.tuple #[.string ⟨l.toArray⟩, .bool b]) ∧ w = w' := by
  refine (Tryd.strings_CutSuffix s ⟨#[x]⟩ w hs).mono fun e w' ⟨he, hw⟩ => ⟨?_, hw.symm⟩
  rw [he, ← h1, ← h2]
theorem parseUint_list (l : List UInt8) (r : Option Nat) (hr : puAll l = r) (hlim : l.length ≤ 281474976710656) (w : World) (he : Errs w) :
    Calls Tryd.prog 40 #[.string ⟨l.toArray⟩, .int .i64 10, .int .i64 62] w fun e w' => PuEnd 63 AnyV r e ∧ Later w w' := by
  have h := parseUint_any ⟨l.toArray⟩ (by rw [size_mk]; exact hlim) w he
  rw [← hr]
  exact h

set_option maxRecDepth 100000 in
theorem Parse_some (s : ByteArray) (u : Nat) (p q : Bool) (hlim : s.size ≤ 281474976710656) (hq : Lib.hasSuffix s.data.toList [120] = q) (hp : Lib.hasSuffix (Lib.trimSuffix s.data.toList [120]) [43] = p)
    (hu : puAll (Lib.trimSuffix (Lib.trimSuffix s.data.toList [120]) [43]) = some u) (hst : s.data.toList = showL u p q) (w : World) (htab : Tab w) (he : Errs w) :
    Calls Tryd.prog 22 #[.string s] w fun e w' => e = .returned (.tuple #[.int .u64 (wd u p q), .int .i64 0]) ∧ Later w w' := by
  have ul := puAll_le hu
  have hcm : (showL u p q == s.toList) = true := by rw [Lib.toList_data, hst]; simp
  clear hst
  obtain ⟨l1, h1⟩ : ∃ l, Lib.trimSuffix s.data.toList [120] = l := ⟨_, rfl⟩
  have n1 : l1.length ≤ 281474976710656 := by rw [← h1]; exact Nat.le_trans (trim_len _ _) (by rw [← Lib.size_eq]; exact hlim)
  rw [h1] at hp hu
  obtain ⟨l2, h2⟩ : ∃ l, Lib.trimSuffix l1 [43] = l := ⟨_, rfl⟩
  have n2 : l2.length ≤ 281474976710656 := by rw [← h2]; exact Nat.le_trans (trim_len _ _) n1
  rw [h2] at hu
  have H1 := Lib.hid h1
  have H2 := Lib.hid h2
  have HP := Lib.hid hp
  have HQ := Lib.hid hq
  have HU := Lib.hid hu
  obtain ⟨r, hr⟩ : ∃ r, r = wd u p q := ⟨_, rfl⟩
  have r0 : 0 ≤ r := by rw [hr]; cases p <;> cases q <;> simp [wd] <;> omega
  have r1 : r ≤ 18446744073709551615 := by rw [hr]; cases p <;> cases q <;> simp [wd] <;> omega
  have R4 := Lib.hid (show r / 4 = u by rw [hr]; cases p <;> cases q <;> simp [wd] <;> omega)
  have RP := Lib.hid (show decide (r % 2 = 1) = p by rw [hr]; cases p <;> cases q <;> simp [wd] <;> omega)
  have RQ := Lib.hid (show decide (r / 2 % 2 = 1) = q by rw [hr]; cases p <;> cases q <;> simp [wd] <;> omega)
  have HR := Lib.hid hr
  clear h1 h2 hp hq hu hr
  go_enter Tryd.func22, Tryd.ntmps22
  go_wp2_with fail
  refine (cut_is s 120 l1 q _ (by omega) H1.out HQ.out).mono ?_
  rintro e w1 ⟨rfl, rfl⟩
  go_wp2_with fail
  refine (cut_is _ 43 l2 p _ (by rw [size_mk]; omega) H2.out HP.out).mono ?_
  rintro e w1 ⟨rfl, rfl⟩
  go_wp2_with fail
  refine (parseUint_list l2 _ HU.out n2 _ he).mono ?_
  rintro e w1 ⟨rfl, hb1⟩
  go_wp2_with fail
  refine (New_ok _ r _ _ _ (by omega) (by omega) HR.out).mono ?_
  rintro e w2 ⟨rfl, hb2⟩
  go_wp2_with fail
  refine (Show_any _ u p q _ r0 r1 R4.out RP.out RQ.out (htab.later (hb1.trans hb2))).mono ?_
  rintro e w3 ⟨rfl, hb3⟩
  go_wp2_with fail
  go_ret2
  refine ⟨?_, (hb1.trans hb2).trans hb3⟩
  rw [← HR.out]
  rfl

set_option maxRecDepth 100000 in
theorem Parse_other (s : ByteArray) (u : Nat) (p q : Bool) (hlim : s.size ≤ 281474976710656) (hq : Lib.hasSuffix s.data.toList [120] = q) (hp : Lib.hasSuffix (Lib.trimSuffix s.data.toList [120]) [43] = p)
    (hu : puAll (Lib.trimSuffix (Lib.trimSuffix s.data.toList [120]) [43]) = some u) (hst : s.data.toList ≠ showL u p q) (w : World) (htab : Tab w) (he : Errs w) :
    Calls Tryd.prog 22 #[.string s] w fun e w' => e = .returned (.tuple #[.int .u64 0, .int .i64 7]) ∧ Later w w' := by
  have ul := puAll_le hu
  have hcm : (showL u p q == s.toList) = false := by rw [Lib.toList_data]; simp; exact fun h => hst h.symm
  clear hst
  obtain ⟨l1, h1⟩ : ∃ l, Lib.trimSuffix s.data.toList [120] = l := ⟨_, rfl⟩
  have n1 : l1.length ≤ 281474976710656 := by rw [← h1]; exact Nat.le_trans (trim_len _ _) (by rw [← Lib.size_eq]; exact hlim)
  rw [h1] at hp hu
  obtain ⟨l2, h2⟩ : ∃ l, Lib.trimSuffix l1 [43] = l := ⟨_, rfl⟩
  have n2 : l2.length ≤ 281474976710656 := by rw [← h2]; exact Nat.le_trans (trim_len _ _) n1
  rw [h2] at hu
  have H1 := Lib.hid h1
  have H2 := Lib.hid h2
  have HP := Lib.hid hp
  have HQ := Lib.hid hq
  have HU := Lib.hid hu
  obtain ⟨r, hr⟩ : ∃ r, r = wd u p q := ⟨_, rfl⟩
  have r0 : 0 ≤ r := by rw [hr]; cases p <;> cases q <;> simp [wd] <;> omega
  have r1 : r ≤ 18446744073709551615 := by rw [hr]; cases p <;> cases q <;> simp [wd] <;> omega
  have R4 := Lib.hid (show r / 4 = u by rw [hr]; cases p <;> cases q <;> simp [wd] <;> omega)
  have RP := Lib.hid (show decide (r % 2 = 1) = p by rw [hr]; cases p <;> cases q <;> simp [wd] <;> omega)
  have RQ := Lib.hid (show decide (r / 2 % 2 = 1) = q by rw [hr]; cases p <;> cases q <;> simp [wd] <;> omega)
  have HR := Lib.hid hr
  clear h1 h2 hp hq hu hr
  go_enter Tryd.func22, Tryd.ntmps22
  go_wp2_with fail
  refine (cut_is s 120 l1 q _ (by omega) H1.out HQ.out).mono ?_
  rintro e w1 ⟨rfl, rfl⟩
  go_wp2_with fail
  refine (cut_is _ 43 l2 p _ (by rw [size_mk]; omega) H2.out HP.out).mono ?_
  rintro e w1 ⟨rfl, rfl⟩
  go_wp2_with fail
  refine (parseUint_list l2 _ HU.out n2 _ he).mono ?_
  rintro e w1 ⟨rfl, hb1⟩
  go_wp2_with fail
  refine (New_ok _ r _ _ _ (by omega) (by omega) HR.out).mono ?_
  rintro e w2 ⟨rfl, hb2⟩
  go_wp2_with fail
  refine (Show_any _ u p q _ r0 r1 R4.out RP.out RQ.out (htab.later (hb1.trans hb2))).mono ?_
  rintro e w3 ⟨rfl, hb3⟩
  go_wp2_with fail
  go_ret2
  exact ⟨rfl, (hb1.trans hb2).trans hb3⟩

set_option maxRecDepth 100000 in
theorem Parse_bad (s : ByteArray) (hlim : s.size ≤ 281474976710656)
    (hu : puAll (Lib.trimSuffix (Lib.trimSuffix s.data.toList [120]) [43]) = none) (w : World) (he : Errs w) :
    Calls Tryd.prog 22 #[.string s] w fun e w' => e = .returned (.tuple #[.int .u64 0, .int .i64 7]) ∧ Later w w' := by
  obtain ⟨q, hq⟩ : ∃ q, Lib.hasSuffix s.data.toList [120] = q := ⟨_, rfl⟩
  obtain ⟨p, hp⟩ : ∃ p, Lib.hasSuffix (Lib.trimSuffix s.data.toList [120]) [43] = p := ⟨_, rfl⟩
  obtain ⟨l1, h1⟩ : ∃ l, Lib.trimSuffix s.data.toList [120] = l := ⟨_, rfl⟩
  have n1 : l1.length ≤ 281474976710656 := by rw [← h1]; exact Nat.le_trans (trim_len _ _) (by rw [← Lib.size_eq]; exact hlim)
  rw [h1] at hp hu
  obtain ⟨l2, h2⟩ : ∃ l, Lib.trimSuffix l1 [43] = l := ⟨_, rfl⟩
  have n2 : l2.length ≤ 281474976710656 := by rw [← h2]; exact Nat.le_trans (trim_len _ _) n1
  rw [h2] at hu
  have H1 := Lib.hid h1
  have H2 := Lib.hid h2
  have HP := Lib.hid hp
  have HQ := Lib.hid hq
  have HU := Lib.hid hu
  clear h1 h2 hp hq hu
  go_enter Tryd.func22, Tryd.ntmps22
  go_wp2_with fail
  refine (cut_is s 120 l1 q _ (by omega) H1.out HQ.out).mono ?_
  rintro e w1 ⟨rfl, rfl⟩
  go_wp2_with fail
  refine (cut_is _ 43 l2 p _ (by rw [size_mk]; omega) H2.out HP.out).mono ?_
  rintro e w1 ⟨rfl, rfl⟩
  go_wp2_with fail
  refine (parseUint_list l2 _ HU.out n2 _ he).mono ?_
  rintro e w1 ⟨⟨n, v, hn0, hn1, _, rfl⟩, hb1⟩
  go_wp2_with fail
  refine (New_ok _ _ _ _ _ hn0 hn1 rfl).mono ?_
  rintro e w2 ⟨rfl, hb2⟩
  go_wp2_with fail
  go_ret2
  exact ⟨rfl, hb1.trans hb2⟩

/-- Parse of the text of a word gives the word; of any other text, an error. -/
theorem Parse_yes (s : ByteArray) (u : Nat) (p q : Bool) (hlim : s.size ≤ 281474976710656) (hs : s.data.toList = showL u p q) (hu : u ≤ 4611686018427387903) (w : World) (htab : Tab w) (he : Errs w) :
    Calls Tryd.prog 22 #[.string s] w fun e w' => e = .returned (.tuple #[.int .u64 (wd u p q), .int .i64 0]) ∧ Later w w' :=
  Parse_some s u p q hlim (by rw [hs, showL_hasX]) (by rw [hs, showL_trimX, showL_hasP]) (by rw [hs, showL_trimX, showL_trimP, puAll_digits u hu]) hs w htab he
theorem Parse_no (s : ByteArray) (hlim : s.size ≤ 281474976710656) (hs : ∀ (u : Nat) (p q : Bool), u ≤ 4611686018427387903 → s.data.toList ≠ showL u p q) (w : World) (htab : Tab w) (he : Errs w) :
    Calls Tryd.prog 22 #[.string s] w fun e w' => e = .returned (.tuple #[.int .u64 0, .int .i64 7]) ∧ Later w w' := by
  cases hr : puAll (Lib.trimSuffix (Lib.trimSuffix s.data.toList [120]) [43]) with
  | none => exact Parse_bad s hlim hr w he
  | some u => exact Parse_other s u _ _ hlim rfl rfl hr (hs u _ _ (puAll_le hr)) w htab he
end Go.Proofs.YtllcppdgamagoaaDoor
