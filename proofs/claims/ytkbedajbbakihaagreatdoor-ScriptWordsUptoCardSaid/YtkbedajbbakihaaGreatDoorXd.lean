/-
 Texts of this proof, put together (Sw): each part's first words say what it holds. Conditions: as each part says.
-/
import Derived.Test.YtkbedajbbakihaaGreatDoorXc
import Derived.Test.YtkbedajbbakihaaGreatDoorYb
/-
 ScriptWords, walked. Conditions: strings of at most 1048576 bytes; the listed variables read as laid.
-/
namespace Go.Proofs.YtkbedajbbakihaaGreatDoor
open Go.RowKit Go.Sort Go.Lib
set_option linter.unusedSimpArgs false
set_option linter.unusedVariables false

set_option maxRecDepth 100000 in
set_option maxHeartbeats 4000000 in
theorem ScriptWords_is (s u : ByteArray) (hs : s.size ≤ 1048576) (hu : u.size ≤ 1048576) (w : World) (hw : Laid w) :
  Calls Tryz.prog 4 #[.string s, .string u] w fun e w' => e = .returned (.bool true) ∧ Later w w' := by
 have hl := flat_len s.data.toList
 have hX : (word s.data.toList).length ≤ 100000000 := by
  have := word_len s.data.toList
  rw [← Lib.size_eq] at this
  omega
 obtain ⟨X, hXe⟩ : ∃ X : ByteArray, X = ⟨(word s.data.toList).toArray⟩ := ⟨_, rfl⟩
 have hXs : X.size ≤ 100000000 := by rw [hXe]; simpa [ByteArray.size] using hX
 have hXl : X.data.toList = word s.data.toList := by rw [hXe]
 have H1 := Lib.hid (fun W => show Calls Tryz.prog 11 #[.string s] W (Ret (.string X) W) from by rw [hXe]; exact Word_is s (by omega) W)
 have H2 := Lib.hid (fun W => show Calls Tryz.prog 12 #[.string X] W (Ret (.tuple #[.string s, .int .i64 0]) W) from
  (Unword_is X hXs W).mono fun e w' ⟨h1, h2⟩ => ⟨by
   rw [hXl, unword_word] at h1
   have : (⟨s.data.toList.toArray⟩ : ByteArray) = s := by cases s; simp
   rw [h1, this], h2⟩)
 have H5 := Lib.hid (fun W => show Calls Tryz.prog 13 #[.string s] W (Ret (.string X) W) from by rw [hXe]; exact refWord_is s (by omega) W)
 have H3 := Lib.hid (fun W => Unword_is u (by omega) W)
 have H4 := Lib.hid (fun W => refUnword_is u (by omega) W)
 have HAW := Lib.hid (fun W (h : Laid W) => awake_is W h)
 have HLW := Lib.hid hw
 rw [unword_eq] at H3
 obtain ⟨r, hr⟩ : ∃ r, runword u.data.toList = r := ⟨_, rfl⟩
 rw [hr] at H3 H4
 clear hl hX hXe hXs hXl hw hr
 cases r with
 | none =>
  have H3' := Lib.hid (fun W => show Calls Tryz.prog 12 #[.string u] W (Ret (.tuple #[.string ⟨#[]⟩, .int .i64 7]) W) from H3.out W)
  have H4' := Lib.hid (fun W => show Calls Tryz.prog 14 #[.string u] W (Ret (.tuple #[.string ⟨#[]⟩, .bool false]) W) from H4.out W)
  clear H3 H4
  go_enter Tryz.func4, Tryz.ntmps4
  go_wp2_with fail
  refine (H1.out w).mono ?_
  rintro e w1 ⟨rfl, hl1⟩
  have HL1 := Lib.hid hl1
  clear hl1
  go_wp2_with fail
  refine (H2.out w1).mono ?_
  rintro e w2 ⟨rfl, hl2⟩
  have HL2 := Lib.hid (HL1.out.trans hl2)
  clear hl2 HL1
  go_wp2_with fail
  refine (H3'.out w2).mono ?_
  rintro e w3 ⟨rfl, hl3⟩
  have HL3 := Lib.hid (HL2.out.trans hl3)
  clear hl3 HL2
  go_wp2_with fail
  refine (H4'.out w3).mono ?_
  rintro e w4 ⟨rfl, hl4⟩
  have HL4 := Lib.hid (HL3.out.trans hl4)
  clear hl4 HL3
  go_wp2_with fail
  refine (H5.out w4).mono ?_
  rintro e w5 ⟨rfl, hl5⟩
  have HL5 := Lib.hid (HL4.out.trans hl5)
  clear hl5 HL4
  go_wp2_with fail
  refine (HAW.out w5 (HLW.out.later HL5.out)).mono ?_
  rintro e w6 ⟨rfl, hl6⟩
  have HL6 := Lib.hid (HL5.out.trans hl6)
  clear hl6 HL5
  go_wp2_with fail
  go_ret
  exact ⟨rfl, HL6.out⟩
 | some t =>
  obtain ⟨T, hT⟩ : ∃ T : ByteArray, T = ⟨t.toArray⟩ := ⟨_, rfl⟩
  have H3' := Lib.hid (fun W => show Calls Tryz.prog 12 #[.string u] W (Ret (.tuple #[.string T, .int .i64 0]) W) from by rw [hT]; exact H3.out W)
  have H4' := Lib.hid (fun W => show Calls Tryz.prog 14 #[.string u] W (Ret (.tuple #[.string T, .bool true]) W) from by rw [hT]; exact H4.out W)
  clear H3 H4 hT
  go_enter Tryz.func4, Tryz.ntmps4
  go_wp2_with fail
  refine (H1.out w).mono ?_
  rintro e w1 ⟨rfl, hl1⟩
  have HL1 := Lib.hid hl1
  clear hl1
  go_wp2_with fail
  refine (H2.out w1).mono ?_
  rintro e w2 ⟨rfl, hl2⟩
  have HL2 := Lib.hid (HL1.out.trans hl2)
  clear hl2 HL1
  go_wp2_with fail
  refine (H3'.out w2).mono ?_
  rintro e w3 ⟨rfl, hl3⟩
  have HL3 := Lib.hid (HL2.out.trans hl3)
  clear hl3 HL2
  go_wp2_with fail
  refine (H4'.out w3).mono ?_
  rintro e w4 ⟨rfl, hl4⟩
  have HL4 := Lib.hid (HL3.out.trans hl4)
  clear hl4 HL3
  go_wp2_with fail
  refine (H5.out w4).mono ?_
  rintro e w5 ⟨rfl, hl5⟩
  have HL5 := Lib.hid (HL4.out.trans hl5)
  clear hl5 HL4
  go_wp2_with fail
  refine (HAW.out w5 (HLW.out.later HL5.out)).mono ?_
  rintro e w6 ⟨rfl, hl6⟩
  have HL6 := Lib.hid (HL5.out.trans hl6)
  clear hl6 HL5
  go_wp2_with fail
  go_ret
  exact ⟨rfl, HL6.out⟩
end Go.Proofs.YtkbedajbbakihaaGreatDoor
