/-
 Texts of this proof, put together (PzR): each part's first words say what it holds. Conditions: as each part says.
-/
import Derived.Test.YtkbedajbbakihaaGreatDoorYd
import Derived.Test.YtkbedajbbakihaaGreatDoorXa
/-
 Parse and Format as the laws call them, and one law walked: ScriptAgain. Conditions: the listed variables read as laid.
-/
namespace Go.Proofs.YtkbedajbbakihaaGreatDoor
open Go.RowKit
set_option linter.unusedSimpArgs false
set_option linter.unusedVariables false

theorem stP_code {st : Scr} {x : List UInt8 × Bool} {c : Int} (h : stP st x = .error c) : c = 3 ∨ c = 7 := by
 unfold stP at h
 split at h
 ·cases h; exact .inr rfl
 ·split at h
  ·cases h; exact .inl rfl
  ·cases h
theorem runP_code : ∀ (ls : List (List UInt8 × Bool)) (st : Scr) (k n : Nat) (c : Int), runP ls st k = .error (n, c) → c = 3 ∨ c = 7
 | [], _, _, _, _, h => by cases h
 | x :: t, st, k, n, c, h => by
  rw [runP] at h
  cases hs : stP st x with
  | error c' =>
   rw [hs] at h
   cases h
   exact stP_code hs
  | ok st' =>
   rw [hs] at h
   exact runP_code t st' (k + 1) n c h
theorem parse_code {l : List UInt8} {n : Nat} {c : Int} (h : parseP l = .error (n, c)) : c = 3 ∨ c = 7 := by
 unfold parseP at h
 split at h
 ·cases h; exact .inl rfl
 ·exact runP_code _ _ _ _ _ h
theorem Format_of {l : List UInt8} {s : Scr} (h : parseP l = .ok s) (ev pv : Value) (w : World) (hw : Laid w) (hev : EntsAt w ev s.1) (hpv : NumsAt w pv s.2) : Calls Tryz.prog 25 #[.agg #[ev, pv]] w (FmEnd (fmtP s) w) :=
 Format_is ev pv s w hw (parse_big h) hev hpv (parse_fit h) (parse_again h).1
theorem Again_err (s : ByteArray) (n : Nat) (c : Int) (hp : parseP s.data.toList = .error (n, c)) (w : World) (hw : Laid w) :
  Calls Tryz.prog 9 #[.string s] w fun e w' => e = .returned (.bool true) ∧ Later w w' := by
 have hc := parse_code hp
 have H1 := Lib.hid (fun W h => show Calls Tryz.prog 17 #[.string s] W (Ret (.tuple #[.agg #[.slice none 0 0, .slice none 0 0], .int .i64 n, .int .i64 c]) W) from Parse_err hp W h)
 have HW := Lib.hid hw
 have hc0 : (c == 0) = false := by rcases hc with rfl | rfl <;> rfl
 have hc1 : (c != 0) = true := by rcases hc with rfl | rfl <;> rfl
 clear hp hw hc
 go_enter Tryz.func9, Tryz.ntmps9
 go_wp2_with fail
 refine (H1.out w HW.out).mono ?_
 rintro e w1 ⟨rfl, hl1⟩
 have HL1 := Lib.hid hl1
 clear hl1
 go_wp2_with fail
 refine (awake_is _ (HW.out.later (HL1.out.alloc _))).mono ?_
 rintro e w2 ⟨rfl, hl2⟩
 have HL2 := Lib.hid ((HL1.out.alloc _).trans hl2)
 clear hl2
 go_wp2_with fail
 go_ret
 exact ⟨rfl, HL2.out⟩
theorem Again_big (s : ByteArray) (x : Scr) (hp : parseP s.data.toList = .ok x) (hf : fmtP x = .error 3) (hlen : 100000 < s.size) (w : World) (hw : Laid w) :
  Calls Tryz.prog 9 #[.string s] w fun e w' => e = .returned (.bool true) ∧ Later w w' := by
 have H1 := Lib.hid (fun W h => show Calls Tryz.prog 17 #[.string s] W (POk x W) from Parse_ok hp W h)
 have H2 := Lib.hid (fun ev pv W h hv hu => show Calls Tryz.prog 25 #[.agg #[ev, pv]] W (FmEnd (.error 3) W) from hf ▸ Format_of hp ev pv W h hv hu)
 have HW := Lib.hid hw
 clear hp hf hw
 go_enter Tryz.func9, Tryz.ntmps9
 go_wp2_with fail
 refine (H1.out w HW.out).mono ?_
 rintro e w1 ⟨hl1, ao, ca, bo, cb, rfl, hE, hP⟩
 have HL1 := Lib.hid hl1
 have HEP := Lib.hid (And.intro hE hP)
 clear hl1 hE hP
 go_wp2_with fail
 refine (H2.out _ _ _ (HW.out.later (HL1.out.alloc _)) (HEP.out.1.later ((Later.refl w1).alloc _)) (HEP.out.2.later ((Later.refl w1).alloc _))).mono ?_
 rintro e w2 ⟨hl2, rfl⟩
 have HL2 := Lib.hid ((HL1.out.alloc _).trans hl2)
 have hlen2 : (100000 : Int) < (s.size : Int) := by omega
 have hdec : decide ((100000 : Int) < (s.size : Int)) = true := decide_eq_true hlen2
 clear hl2
 go_wp2_with fail
 refine (awake_is _ (HW.out.later HL2.out)).mono ?_
 rintro e w3 ⟨rfl, hl3⟩
 have HL3 := Lib.hid (HL2.out.trans hl3)
 clear hl3
 go_wp2_with fail
 go_ret
 exact ⟨rfl, HL3.out⟩
theorem Again_ok (s : ByteArray) (x : Scr) (t : List UInt8) (hp : parseP s.data.toList = .ok x) (hf : fmtP x = .ok t) (w : World) (hw : Laid w) :
  Calls Tryz.prog 9 #[.string s] w fun e w' => e = .returned (.bool true) ∧ Later w w' := by
 have hp2 := parse_fmt hf (parse_again hp).1
 obtain ⟨T, hT⟩ : ∃ T : ByteArray, T = ⟨t.toArray⟩ := ⟨_, rfl⟩
 have H1 := Lib.hid (fun W h => show Calls Tryz.prog 17 #[.string s] W (POk x W) from Parse_ok hp W h)
 have H2 := Lib.hid (fun ev pv W h hv hu => show Calls Tryz.prog 25 #[.agg #[ev, pv]] W (fun e w' => Later W w' ∧ e = .returned (.tuple #[.string T, .int .i64 0])) by
  have := Format_of hp ev pv W h hv hu
  rw [hf] at this
  rw [hT]
  exact this)
 have H3 := Lib.hid (fun W h => show Calls Tryz.prog 17 #[.string T] W (POk x W) by rw [hT]; exact Parse_ok hp2 W h)
 have H4 := Lib.hid (fun ev pv eu pu W hv hv2 hu hu2 => Same_of hp ev pv eu pu W hv hv2 hu hu2)
 have HW := Lib.hid hw
 clear hp hp2 hf hw hT
 go_enter Tryz.func9, Tryz.ntmps9
 go_wp2_with fail
 refine (H1.out w HW.out).mono ?_
 rintro e w1 ⟨hl1, ao, ca, bo, cb, rfl, hE, hP⟩
 have HL1 := Lib.hid hl1
 have HEP := Lib.hid (And.intro hE hP)
 clear hl1 hE hP
 go_wp2_with fail
 obtain ⟨V1, hV1⟩ : ∃ V, w1.alloc (.cells #[.slice ao x.1.length ca, .slice bo x.2.length cb] 45) = V := ⟨_, rfl⟩
 have hlv : Later w1 V1 := by rw [← hV1]; exact (Later.refl w1).alloc _
 have hkv : V1.heap[w1.heap.size]? = some (.cells #[.slice ao x.1.length ca, .slice bo x.2.length cb] 45 (0, 0)) := by rw [← hV1]; exact (MapKept.heap_alloc w1 _).1
 rw [hV1]
 have HLV := Lib.hid (And.intro (HL1.out.trans hlv) (And.intro hkv hlv))
 clear hV1 hlv hkv
 refine (H2.out _ _ V1 (HW.out.later HLV.out.1) (HEP.out.1.later HLV.out.2.2) (HEP.out.2.later HLV.out.2.2)).mono ?_
 rintro e w2 ⟨hl2, rfl⟩
 have HL2 := Lib.hid hl2
 clear hl2
 go_wp2_with fail
 refine (H3.out w2 (HW.out.later (HLV.out.1.trans HL2.out))).mono ?_
 rintro e w3 ⟨hl3, ap, cp, aq, cq, rfl, hE, hP⟩
 have HL3 := Lib.hid (HL2.out.trans hl3)
 have HEQ := Lib.hid (And.intro hE hP)
 clear hl3 hE hP
 go_wp2_with fail
 obtain ⟨V3, hV3⟩ : ∃ V, w3.alloc (.cells #[.slice ap x.1.length cp, .slice aq x.2.length cq] 45) = V := ⟨_, rfl⟩
 have hlv : Later w3 V3 := by rw [← hV3]; exact (Later.refl w3).alloc _
 have hkv : V3.heap[w3.heap.size]? = some (.cells #[.slice ap x.1.length cp, .slice aq x.2.length cq] 45 (0, 0)) := by rw [← hV3]; exact (MapKept.heap_alloc w3 _).1
 rw [hV3]
 have HLW := Lib.hid (And.intro (HL3.out.trans hlv) (And.intro hkv hlv))
 clear hV3 hlv hkv
 refine (H2.out _ _ V3 (HW.out.later (HLV.out.1.trans HLW.out.1)) (HEQ.out.1.later HLW.out.2.2) (HEQ.out.2.later HLW.out.2.2)).mono ?_
 rintro e w4 ⟨hl4, rfl⟩
 have HL4 := Lib.hid (HLW.out.1.trans hl4)
 have hk1 := (HL4.out.block w1.heap.size (Array.getElem?_eq_some_iff.1 HLV.out.2.1).1).trans HLV.out.2.1
 have hk3 := (hl4.block w3.heap.size (Array.getElem?_eq_some_iff.1 HLW.out.2.1).1).trans HLW.out.2.1
 have c0 : w4.cell? ⟨w1.heap.size, 0, none⟩ = some (.slice ao x.1.length ca) := by rw [Lib.cell_of_heap hk1]; rfl
 have c1 : w4.cell? ⟨w1.heap.size, 1, none⟩ = some (.slice bo x.2.length cb) := by rw [Lib.cell_of_heap hk1]; rfl
 have d0 : w4.cell? ⟨w3.heap.size, 0, none⟩ = some (.slice ap x.1.length cp) := by rw [Lib.cell_of_heap hk3]; rfl
 have d1 : w4.cell? ⟨w3.heap.size, 1, none⟩ = some (.slice aq x.2.length cq) := by rw [Lib.cell_of_heap hk3]; rfl
 have HS := Lib.hid (H4.out _ _ _ _ w4 (HEP.out.1.later (HLV.out.2.2.trans HL4.out)) (HEP.out.2.later (HLV.out.2.2.trans HL4.out)) (HEQ.out.1.later (HLW.out.2.2.trans hl4)) (HEQ.out.2.later (HLW.out.2.2.trans hl4)))
 have HL4' := Lib.hid (HLV.out.1.trans HL4.out)
 clear hl4 hk1 hk3
 go_wp2_with fail
 refine HS.out.mono ?_
 rintro e w5 ⟨rfl, hl5⟩
 have HL5 := Lib.hid (HL4'.out.trans hl5)
 clear hl5 c0 c1 d0 d1
 go_wp2_with fail
 refine (awake_is _ (HW.out.later HL5.out)).mono ?_
 rintro e w6 ⟨rfl, hl6⟩
 have HL6 := Lib.hid (HL5.out.trans hl6)
 clear hl6
 go_wp2_with fail
 go_ret
 exact ⟨rfl, HL6.out⟩
theorem ScriptAgain_is (s : ByteArray) (w : World) (hw : Laid w) : Calls Tryz.prog 9 #[.string s] w fun e w' => e = .returned (.bool true) ∧ Later w w' := by
 cases hp : parseP s.data.toList with
 | error nc => exact Again_err s nc.1 nc.2 hp w hw
 | ok x =>
  rcases (parse_again hp).2 with ⟨t, ht⟩ | ⟨h3, hl⟩
  ·exact Again_ok s x t hp ht w hw
  ·exact Again_big s x hp h3 (by rw [Lib.size_eq]; exact hl) w hw
end Go.Proofs.YtkbedajbbakihaaGreatDoor
