/-
 Texts of this proof, put together (Aw, Ax): each part's first words say what it holds. Conditions: as each part says.
-/
import Derived.Test.YtkbedajbbakihaaGreatDoorYa
import Derived.Test.YtkbedajbbakihaaGreatDoorQi
import Derived.Test.YtkbedajbbakihaaGreatDoorQj
import Derived.Deep.WholeRow
/-
 The law's examples, walked. Conditions: the listed variables read as laid.
-/
namespace Go.Proofs.YtkbedajbbakihaaGreatDoor
open Go.RowKit Go.Sort Go.Lib
set_option linter.unusedSimpArgs false
set_option linter.unusedVariables false

/-- a call that returns a value -/
def Ret (v : Value) (w : World) (e : Ending) (w' : World) : Prop := e = .returned v ∧ Later w w'
theorem aw1 (W : World) : Calls Tryz.prog 12 #[.string ⟨#[97, 37, 50, 48, 98]⟩] W (Ret (.tuple #[.string ⟨#[97, 32, 98]⟩, .int .i64 0]) W) := by
 refine (Unword_is ⟨#[97, 37, 50, 48, 98]⟩ (by decide) W).mono fun e w' ⟨h1, h2⟩ => ⟨?_, h2⟩
 rw [show (ByteArray.data ⟨#[97, 37, 50, 48, 98]⟩).toList = [97, 37, 50, 48, 98] from rfl, exW1] at h1
 exact h1
theorem aw2 (W : World) : Calls Tryz.prog 12 #[.string ⟨#[37, 54, 49]⟩] W (Ret (.tuple #[.string ⟨#[]⟩, .int .i64 7]) W) := by
 refine (Unword_is ⟨#[37, 54, 49]⟩ (by decide) W).mono fun e w' ⟨h1, h2⟩ => ⟨?_, h2⟩
 rw [show (ByteArray.data ⟨#[37, 54, 49]⟩).toList = [37, 54, 49] from rfl, exW2] at h1
 exact h1
theorem aw3 (W : World) (h : Laid W) : Calls Tryz.prog 15 #[.string ⟨#[112, 117, 116, 32, 49, 46, 49, 46, 114, 119, 32, 107, 101, 121, 32, 45]⟩] W (Ret (.tuple #[.agg (reqA exR1), .int .i64 0]) W) := by
 refine (ReadRequest_is [112, 117, 116, 32, 49, 46, 49, 46, 114, 119, 32, 107, 101, 121, 32, 45] (by decide) W h).mono fun e w' ⟨h1, h2⟩ => ⟨?_, h2⟩
 rw [exRead1] at h1
 exact h1
theorem aw5 (W : World) (h : Laid W) : Calls Tryz.prog 15 #[.string ⟨#[103, 101, 116, 32, 49, 46, 49, 46, 114, 119]⟩] W (Ret (.tuple #[.agg (reqA req0), .int .i64 7]) W) := by
 refine (ReadRequest_is [103, 101, 116, 32, 49, 46, 49, 46, 114, 119] (by decide) W h).mono fun e w' ⟨h1, h2⟩ => ⟨?_, h2⟩
 rw [exRead2] at h1
 exact h1
theorem exR2_fits : exR2.fit := by refine ⟨exR2_fit, ?_, ?_, ?_, ?_, ?_, ?_⟩ <;> simp [exR2, req0]
theorem aw4 (W : World) (h : Laid W) : Calls Tryz.prog 22 #[.agg #[.int .i64 9, .int .i64 0, .int .u32 0, .int .u8 0, .string ⟨#[]⟩, .string ⟨#[]⟩, .string ⟨#[]⟩, .int .i64 0, .int .i64 3, .int .u64 0, .int .u64 0, .int .u8 5]] W (Ret (.tuple #[.string ⟨#[105, 115, 115, 117, 101, 32, 51, 32, 114, 115]⟩, .int .i64 0]) W) := by
 refine (ShowRequest_is exR2 exR2_fits W h).mono fun e w' ⟨h1, h2⟩ => ⟨?_, h2⟩
 rw [exShow2] at h1
 exact h1
/-- the answer of pairs -/
def RetP (w : World) (e : Ending) (w' : World) : Prop := Later w w' ∧ ∃ g cap, e = .returned (.tuple #[.agg (ansA 0 [] (.slice (some ⟨g, 0, none⟩) 2 cap)), .int .i64 0]) ∧ g < w'.heap.size ∧ ∀ i v, exP[i]? = some v → w'.cell? ⟨g, i, none⟩ = some v
theorem aw6 (W : World) (h : Laid W) : Calls Tryz.prog 56 #[.string ⟨#[112, 97, 105, 114, 115, 32, 97, 32, 49, 32, 98, 32, 45]⟩] W (RetP W) := by
 refine (ReadAnswer_is [112, 97, 105, 114, 115, 32, 97, 32, 49, 32, 98, 32, 45] (by decide) _ exAns1 W h).mono fun e w' ⟨h1, P, h2, h3, _⟩ => ⟨h1, ?_⟩
 rcases h3.2 with ⟨_, h0⟩ | ⟨g, cap, cur, rfl, hg, hh, _⟩
 ·cases h0
 ·refine ⟨g, cap, h2, (Array.getElem?_eq_some_iff.1 hh).1, fun i v hv => ?_⟩
  have := h3.cells (g := g) rfl i v hv
  rwa [addr_add0] at this
theorem aw8 (W : World) (h : Laid W) : Calls Tryz.prog 56 #[.string ⟨#[101, 114, 114, 111, 114, 32, 48]⟩] W (Ret (.tuple #[.agg (ansA 0 [] nilS), .int .i64 7]) W) :=
 (ReadAnswer_is [101, 114, 114, 111, 114, 32, 48] (by decide) _ exAns2 W h).mono fun e w' ⟨h1, h2⟩ => ⟨h2, h1⟩
theorem aw7 (W : World) (h : Laid W) : Calls Tryz.prog 57 #[.agg (ansA 5 [] nilS)] W (Ret (.tuple #[.string ⟨#[101, 114, 114, 111, 114, 32, 53]⟩, .int .i64 0]) W) := by
 refine (ShowAnswer_err 5 (by omega) (by omega) W h).mono fun e w' ⟨h1, h2⟩ => ⟨?_, h1⟩
 rw [it5] at h2
 exact h2
theorem aw9 (W : World) : Calls Tryz.prog 11 #[.string ⟨#[45]⟩] W (Ret (.string ⟨#[37, 50, 100]⟩) W) :=
 (Word_l [45] (by decide) W).mono fun e w' ⟨h1, h2⟩ => ⟨h1, h2⟩
theorem aw9' (W : World) : Calls Tryz.prog 11 #[.string ⟨#[]⟩] W (Ret (.string ⟨#[45]⟩) W) :=
 (Word_l [] (by decide) W).mono fun e w' ⟨h1, h2⟩ => ⟨h1, h2⟩
theorem exScr_fits : EsFit exScr.1 := by
 intro e he
 simp only [exScr, List.mem_cons, List.not_mem_nil, or_false] at he
 rcases he with rfl | rfl
 ·exact ⟨⟨by omega, by omega⟩, by refine ⟨exR3_fit, ?_, ?_, ?_, ?_, ?_, ?_⟩ <;> simp [exR3, req0]⟩
 ·exact ⟨⟨by omega, by omega⟩, by refine ⟨exR4_fit, ?_, ?_, ?_, ?_, ?_, ?_⟩ <;> simp [exR4, req0]⟩
/-- Parse at the example -/
def RetS (w : World) (e : Ending) (w' : World) : Prop := Later w w' ∧ ∃ a1 c1 g cap, e = .returned (.tuple #[.agg #[.slice a1 2 c1, .slice (some ⟨g, 0, none⟩) 3 cap], .int .i64 0, .int .i64 0]) ∧ EntsAt w' (.slice a1 2 c1) exScr.1 ∧ NumsAt w' (.slice (some ⟨g, 0, none⟩) 3 cap) exScr.2 ∧ IntsAt w' g 0 [0, -1, 5]
theorem awP (W : World) (h : Laid W) : Calls Tryz.prog 17 #[.string ⟨#[48, 32, 99, 114, 101, 97, 116, 101, 32, 49, 32, 57, 32, 57, 48, 10, 112, 105, 99, 107, 115, 32, 48, 32, 45, 49, 10, 49, 32, 103, 101, 116, 32, 49, 46, 49, 46, 114, 32, 97, 10, 112, 105, 99, 107, 115, 32, 53, 10]⟩] W (RetS W) := by
 refine (Parse_is exTxt (by decide) W h).mono fun e w' ⟨h1, h2⟩ => ⟨h1, ?_⟩
 rw [exParse] at h2
 obtain ⟨ev, pv, rfl, he, hp⟩ := h2
 have he2 := EntsAt.of_owns he
 have hp2 := NumsAt.of_owns hp
 obtain ⟨a1, c1, rfl, _⟩ := he2
 obtain ⟨a2, c2, rfl, h0 | ⟨X, off, rfl, hi⟩⟩ := hp2
 ·cases h0
 ·rcases hp.2 with ⟨hq, _⟩ | ⟨g, cap, cur, hq, _⟩
  ·cases hq
  ·injection hq with q1 q2 q3
   injection q1 with q1
   injection q1 with q1 q4 q5
   subst q1 q4
   exact ⟨a1, c1, X, c2, rfl, EntsAt.of_owns he, NumsAt.of_owns hp, hi⟩
theorem awF (ev pv : Value) (W : World) (h : Laid W) (he : EntsAt W ev exScr.1) (hp : NumsAt W pv exScr.2) :
  Calls Tryz.prog 25 #[.agg #[ev, pv]] W (Ret (.tuple #[.string ⟨#[48, 32, 99, 114, 101, 97, 116, 101, 32, 49, 32, 57, 32, 57, 48, 10, 49, 32, 103, 101, 116, 32, 49, 46, 49, 46, 114, 32, 97, 10, 112, 105, 99, 107, 115, 32, 48, 32, 45, 49, 32, 53, 10]⟩, .int .i64 0]) W) := by
 refine (Format_is ev pv exScr W h rfl he hp exScr_fits (by
  intro p hp
  simp only [exScr, List.mem_cons, List.not_mem_nil, or_false] at hp
  rcases hp with rfl | rfl | rfl <;> exact ⟨by omega, by omega⟩)).mono fun e w' ⟨h1, h2⟩ => ⟨?_, h1⟩
 rw [exFormat] at h2
 exact h2
end Go.Proofs.YtkbedajbbakihaaGreatDoor

/-
 The law's examples, walked: awake. Conditions: the listed variables read as laid.
-/
namespace Go.Proofs.YtkbedajbbakihaaGreatDoor
open Go.RowKit Go.Sort Go.Lib
set_option linter.unusedSimpArgs false
set_option linter.unusedVariables false

theorem req_block (w : World) (A : Array Value) : (w.alloc (.cells A 39)).heap[w.heap.size]? = some (.cells A 39 (0, 0)) := (MapKept.heap_alloc w _).1
theorem zero39 : (Tryz.prog.info? 39).map (·.size) = some 12 := by kernel_rfl
theorem neq_ex1 (W : World) : (binOp .neq 39 (.agg (reqA exR1)) (.agg #[.int .i64 2, .int .i64 1, .int .u32 1, .int .u8 3, .string ⟨#[107, 101, 121]⟩, .string ⟨#[]⟩, .string ⟨#[]⟩, .int .i64 0, .int .i64 0, .int .u64 0, .int .u64 0, .int .u8 0])).run Tryz.prog W = .ok (.bool false) W := by kernel_rfl
set_option maxRecDepth 100000 in
set_option maxHeartbeats 16000000 in
theorem awake_is (w : World) (hw : Laid w) : Calls Tryz.prog 21 #[] w fun e w' => e = .returned (.bool true) ∧ Later w w' := by
 have HLW := Lib.hid hw
 clear hw
 obtain ⟨D1, hD1⟩ : ∃ D, reqA exR1 = D := ⟨_, rfl⟩
 obtain ⟨D0, hD0⟩ : ∃ D, reqA req0 = D := ⟨_, rfl⟩
 have HD := Lib.hid (And.intro hD1 hD0)
 have h1s : (Tryz.prog.info? 39).map (·.size) = some D1.size := by rw [← hD1]; exact reqA_info
 have h1l : (Tryz.prog.info? 39).map (·.size) = some D1.toList.length := by rw [Array.length_toList]; exact h1s
 have h0s : (Tryz.prog.info? 39).map (·.size) = some D0.size := by rw [← hD0]; exact reqA_info
 have h1o : D1.all (·.oneCell') = true := by rw [← hD1]; exact reqA_one _
 have h0o : D0.all (·.oneCell') = true := by rw [← hD0]; exact reqA_one _
 have h1z : (reqA req0).size = D1.size := by rw [← hD1]; rfl
 have h0z : (reqA req0).size = D0.size := by rw [← hD0]
 have HI := Lib.hid (And.intro h1s (And.intro h0s (And.intro h1o (And.intro h0o (And.intro h1z (And.intro h0z h1l))))))
 have HN1 := Lib.hid (fun W => show (binOp .neq 39 (.agg D1) (.agg #[.int .i64 2, .int .i64 1, .int .u32 1, .int .u8 3, .string ⟨#[107, 101, 121]⟩, .string ⟨#[]⟩, .string ⟨#[]⟩, .int .i64 0, .int .i64 0, .int .u64 0, .int .u64 0, .int .u8 0])).run Tryz.prog W = .ok (.bool false) W by rw [← hD1]; exact neq_ex1 W)
 have H3 := Lib.hid (fun W (h : Laid W) => show Calls Tryz.prog 15 #[.string ⟨#[112, 117, 116, 32, 49, 46, 49, 46, 114, 119, 32, 107, 101, 121, 32, 45]⟩] W (Ret (.tuple #[.agg D1, .int .i64 0]) W) by rw [← hD1]; exact aw3 W h)
 have H5 := Lib.hid (fun W (h : Laid W) => show Calls Tryz.prog 15 #[.string ⟨#[103, 101, 116, 32, 49, 46, 49, 46, 114, 119]⟩] W (Ret (.tuple #[.agg D0, .int .i64 7]) W) by rw [← hD0]; exact aw5 W h)
 clear h1s h1l h0s h1o h0o h1z h0z hD1 hD0
 go_enter Tryz.func21, Tryz.ntmps21
 go_wp2_with fail
 refine (aw1 w).mono ?_
 rintro e w1 ⟨rfl, hl1⟩
 have HL1 := Lib.hid hl1
 clear hl1
 go_wp2_with fail
 refine (aw2 w1).mono ?_
 rintro e w2 ⟨rfl, hl2⟩
 have HL2 := Lib.hid (HL1.out.trans hl2)
 clear hl2 HL1
 go_wp2_with fail
 refine (H3.out w2 (HLW.out.later HL2.out)).mono ?_
 rintro e w3 ⟨rfl, hl3⟩
 have HL3 := Lib.hid (HL2.out.trans hl3)
 clear hl3 HL2
 go_upto_region 4 with (refine wpList_store_rowTo rfl 39 (.tmp 5) (.tmp 30) rfl rfl w3.heap.size D1 rfl rfl 39 (reqA req0) (req_block w3 (reqA req0)) HI.out.1 HI.out.2.2.2.2.1 HI.out.2.2.1 ?_)
 have hz3 : (w3.alloc (.cells #[.int .i64 0, .int .i64 0, .int .u32 0, .int .u8 0, .string ⟨#[]⟩, .string ⟨#[]⟩, .string ⟨#[]⟩, .int .i64 0, .int .i64 0, .int .u64 0, .int .u64 0, .int .u8 0] 39)).setRow w3.heap.size D1 = w3.alloc (.cells D1 39) := World.setRow_alloc_new _ _ _ _
 rw [hz3]
 obtain ⟨B5, hB5⟩ : ∃ B, w3.heap.size = B := ⟨_, rfl⟩
 obtain ⟨V3, hV3⟩ : ∃ V, w3.alloc (.cells D1 39) = V := ⟨_, rfl⟩
 have hlV : Later w V3 := by rw [← hV3]; exact HL3.out.alloc _
 have hkV : V3.heap[B5]? = some (.cells D1 39 (0, 0)) := by rw [← hV3, ← hB5]; exact req_block w3 D1
 have HV3 := Lib.hid (And.intro hlV hkV)
 rw [hB5, hV3]
 clear hz3 hB5 hV3 hlV hkV HL3
 go_wp2_with fail
 refine (aw4 V3 (HLW.out.later HV3.out.1)).mono ?_
 rintro e w4 ⟨rfl, hl4⟩
 have HL4 := Lib.hid hl4
 clear hl4
 go_wp2_with fail
 refine (H5.out w4 (HLW.out.later (HV3.out.1.trans HL4.out))).mono ?_
 rintro e w5 ⟨rfl, hl5⟩
 have HL5 := Lib.hid (HL4.out.trans hl5)
 clear hl5 HL4
 go_upto_region 6 with (refine wpList_store_rowTo rfl 39 (.tmp 9) (.tmp 39) rfl rfl w5.heap.size D0 rfl rfl 39 (reqA req0) (req_block w5 (reqA req0)) HI.out.2.1 HI.out.2.2.2.2.2.1 HI.out.2.2.2.1 ?_)
 have hz5 : (w5.alloc (.cells #[.int .i64 0, .int .i64 0, .int .u32 0, .int .u8 0, .string ⟨#[]⟩, .string ⟨#[]⟩, .string ⟨#[]⟩, .int .i64 0, .int .i64 0, .int .u64 0, .int .u64 0, .int .u8 0] 39)).setRow w5.heap.size D0 = w5.alloc (.cells D0 39) := World.setRow_alloc_new _ _ _ _
 rw [hz5]
 obtain ⟨V5, hV5⟩ : ∃ V, w5.alloc (.cells D0 39) = V := ⟨_, rfl⟩
 have HV5 := Lib.hid (show Later V3 V5 by rw [← hV5]; exact HL5.out.alloc _)
 rw [hV5]
 clear hz5 hV5 HL5
 go_wp2_with fail
 refine (aw6 V5 (HLW.out.later (HV3.out.1.trans HV5.out))).mono ?_
 rintro e w6 ⟨hl6, g, cap, rfl, hg, hex⟩
 have HL6 := Lib.hid (HV5.out.trans hl6)
 obtain ⟨A6, hA6⟩ : ∃ A, ansA 0 [] (.slice (some ⟨g, 0, none⟩) 2 cap) = A := ⟨_, rfl⟩
 have hA6s : (Tryz.prog.info? 81).map (·.size) = some A6.size := by rw [← hA6]; exact ansA_info
 have hA6o : A6.all (·.oneCell') = true := by rw [← hA6]; exact ansA_one _ _ _ ⟨_, _, _, rfl⟩
 have hA6z : (ansA 0 [] nilS).size = A6.size := by rw [← hA6]; rfl
 have hA62 : A6[2]? = some (.slice (some ⟨g, 0, none⟩) 2 cap) := by rw [← hA6]; rfl
 have HA6 := Lib.hid (And.intro hA6s (And.intro hA6o (And.intro hA6z hA62)))
 have HEX := Lib.hid (And.intro hg hex)
 rw [hA6]
 clear hl6 hg hex hA6 hA6s hA6o hA6z hA62 HV5
 go_upto_region 7 with (refine wpList_store_rowTo rfl 81 (.tmp 11) (.tmp 43) rfl rfl w6.heap.size A6 rfl rfl 81 (ansA 0 [] nilS) (ans_block w6 (ansA 0 [] nilS)) HA6.out.1 HA6.out.2.2.1 HA6.out.2.1 ?_)
 have hz6 : (w6.alloc (.cells #[.int .i64 0, .string ⟨#[]⟩, .slice none 0 0, .int .i64 0, .int .u32 0, .int .u8 0, .int .u64 0, .int .u64 0, .int .u64 0, .int .u64 0, .int .u64 0, .int .u64 0, .int .u64 0, .int .u64 0, .int .u64 0, .int .u64 0, .complex .f64 0 0] 81)).setRow w6.heap.size A6 = w6.alloc (.cells A6 81) := World.setRow_alloc_new _ _ _ _
 rw [hz6]
 obtain ⟨B6, hB6⟩ : ∃ B, w6.heap.size = B := ⟨_, rfl⟩
 obtain ⟨V6, hV6⟩ : ∃ V, w6.alloc (.cells A6 81) = V := ⟨_, rfl⟩
 have hlV6 : Later w6 V6 := by rw [← hV6]; exact (Later.refl w6).alloc _
 have hkV6 : V6.heap[B6]? = some (.cells A6 81 (0, 0)) := by rw [← hV6, ← hB6]; exact ans_block w6 A6
 have HV6 := Lib.hid (And.intro (HL6.out.trans hlV6) (And.intro hkV6 hlV6))
 rw [hB6, hV6]
 clear hz6 hB6 hV6 hlV6 hkV6 HL6
 go_wp2_with fail
 refine (show Calls Tryz.prog 57 #[.agg #[.int .i64 5, .string ⟨#[]⟩, .slice none 0 0, .int .i64 0, .int .u32 0, .int .u8 0, .int .u64 0, .int .u64 0, .int .u64 0, .int .u64 0, .int .u64 0, .int .u64 0, .int .u64 0, .int .u64 0, .int .u64 0, .int .u64 0, .complex .f64 0 0]] V6 _ from aw7 V6 (HLW.out.later (HV3.out.1.trans HV6.out.1))).mono ?_
 rintro e w7 ⟨rfl, hl7⟩
 have HL7 := Lib.hid hl7
 clear hl7
 go_wp2_with fail
 refine (show Calls Tryz.prog 56 #[.string ⟨#[101, 114, 114, 111, 114, 32, 48]⟩] w7 (Ret (.tuple #[.agg (ansA 0 [] nilS), .int .i64 7]) w7) from aw8 w7 (HLW.out.later (HV3.out.1.trans (HV6.out.1.trans HL7.out)))).mono ?_
 rintro e w8 ⟨rfl, hl8⟩
 have HL8 := Lib.hid (HL7.out.trans hl8)
 clear hl8 HL7
 obtain ⟨A8, hA8⟩ : ∃ A, ansA 0 [] nilS = A := ⟨_, rfl⟩
 have hA8s : (Tryz.prog.info? 81).map (·.size) = some A8.size := by rw [← hA8]; exact ansA_info
 have hA8o : A8.all (·.oneCell') = true := by rw [← hA8]; exact ansA_one _ _ _ ⟨_, _, _, rfl⟩
 have hA8z : (ansA 0 [] nilS).size = A8.size := by cases hA8; rfl
 have HA8 := Lib.hid (And.intro hA8s (And.intro hA8o hA8z))
 rw [hA8]
 clear hA8 hA8s hA8o hA8z
 go_upto_region 9 with (refine wpList_store_rowTo rfl 81 (.tmp 15) (.tmp 52) rfl rfl w8.heap.size A8 rfl rfl 81 (ansA 0 [] nilS) (ans_block w8 (ansA 0 [] nilS)) HA8.out.1 HA8.out.2.2 HA8.out.2.1 ?_)
 have hz8 : (w8.alloc (.cells #[.int .i64 0, .string ⟨#[]⟩, .slice none 0 0, .int .i64 0, .int .u32 0, .int .u8 0, .int .u64 0, .int .u64 0, .int .u64 0, .int .u64 0, .int .u64 0, .int .u64 0, .int .u64 0, .int .u64 0, .int .u64 0, .int .u64 0, .complex .f64 0 0] 81)).setRow w8.heap.size A8 = w8.alloc (.cells A8 81) := World.setRow_alloc_new _ _ _ _
 rw [hz8]
 obtain ⟨V8, hV8⟩ : ∃ V, w8.alloc (.cells A8 81) = V := ⟨_, rfl⟩
 have HV8 := Lib.hid (show Later V6 V8 by rw [← hV8]; exact HL8.out.alloc _)
 rw [hV8]
 clear hz8 hV8 HL8
 go_wp2_with fail
 refine (aw9 V8).mono ?_
 rintro e w9 ⟨rfl, hl9⟩
 have HL9 := Lib.hid hl9
 clear hl9
 go_wp2_with fail
 refine (aw9' w9).mono ?_
 rintro e w10 ⟨rfl, hl10⟩
 have HL10 := Lib.hid ((HV8.out.trans HL9.out).trans hl10)
 clear hl10 HL9
 have hb5 : B5 < V3.heap.size := (Array.getElem?_eq_some_iff.1 HV3.out.2).1
 have hb6 : B6 < V6.heap.size := (Array.getElem?_eq_some_iff.1 HV6.out.2.1).1
 have hk5 := ((HV6.out.1.trans HL10.out).block B5 hb5).trans HV3.out.2
 have hk6 := (HL10.out.block B6 hb6).trans HV6.out.2.1
 have c62 : w10.cell? ⟨B6, 2, none⟩ = some (.slice (some ⟨g, 0, none⟩) 2 cap) := by rw [Lib.cell_of_heap hk6]; exact HA6.out.2.2.2
 have HSP := Lib.hid (fun (o : Obj) (Y cb : Nat) (hy : ∀ i v, exP[i]? = some v → (w10.alloc o).cell? ⟨Y, i, none⟩ = some v) => SamePairs_ex g Y cap cb (w10.alloc o) (fun i v hv => cell_at ((HV6.out.2.2.trans HL10.out).alloc o) (HEX.out.2 i v hv) HEX.out.1) hy)
 clear hb5 hb6 hk6
 have e0 : w10.cell? ⟨B5, 0, none⟩ = some (.int .i64 2) := by rw [Lib.cell_of_heap hk5, ← HD.out.1]; rfl
 have e1 : w10.cell? ⟨B5, 1, none⟩ = some (.int .i64 1) := by rw [Lib.cell_of_heap hk5, ← HD.out.1]; rfl
 have e2 : w10.cell? ⟨B5, 2, none⟩ = some (.int .u32 1) := by rw [Lib.cell_of_heap hk5, ← HD.out.1]; rfl
 have e3 : w10.cell? ⟨B5, 3, none⟩ = some (.int .u8 3) := by rw [Lib.cell_of_heap hk5, ← HD.out.1]; rfl
 have e4 : w10.cell? ⟨B5, 4, none⟩ = some (.string ⟨#[107, 101, 121]⟩) := by rw [Lib.cell_of_heap hk5, ← HD.out.1]; rfl
 have e5 : w10.cell? ⟨B5, 5, none⟩ = some (.string ⟨#[]⟩) := by rw [Lib.cell_of_heap hk5, ← HD.out.1]; rfl
 have e6 : w10.cell? ⟨B5, 6, none⟩ = some (.string ⟨#[]⟩) := by rw [Lib.cell_of_heap hk5, ← HD.out.1]; rfl
 have e7 : w10.cell? ⟨B5, 7, none⟩ = some (.int .i64 0) := by rw [Lib.cell_of_heap hk5, ← HD.out.1]; rfl
 have e8 : w10.cell? ⟨B5, 8, none⟩ = some (.int .i64 0) := by rw [Lib.cell_of_heap hk5, ← HD.out.1]; rfl
 have e9 : w10.cell? ⟨B5, 9, none⟩ = some (.int .u64 0) := by rw [Lib.cell_of_heap hk5, ← HD.out.1]; rfl
 have e10 : w10.cell? ⟨B5, 10, none⟩ = some (.int .u64 0) := by rw [Lib.cell_of_heap hk5, ← HD.out.1]; rfl
 have e11 : w10.cell? ⟨B5, 11, none⟩ = some (.int .u8 0) := by rw [Lib.cell_of_heap hk5, ← HD.out.1]; rfl
 have hne : ∀ W : World, (binOp .neq 39 (.agg #[.int .i64 2, .int .i64 1, .int .u32 1, .int .u8 3, .string ⟨#[107, 101, 121]⟩, .string ⟨#[]⟩, .string ⟨#[]⟩, .int .i64 0, .int .i64 0, .int .u64 0, .int .u64 0, .int .u8 0]) (.agg #[.int .i64 2, .int .i64 1, .int .u32 1, .int .u8 3, .string ⟨#[107, 101, 121]⟩, .string ⟨#[]⟩, .string ⟨#[]⟩, .int .i64 0, .int .i64 0, .int .u64 0, .int .u64 0, .int .u8 0])).run Tryz.prog W = .ok (.bool false) W := fun W => neq_ex1 W
 clear hk5
 go_wp2_with fail
 refine (HSP.out (.cells #[.string ⟨#[97]⟩, .string ⟨#[49]⟩, .string ⟨#[98]⟩, .string ⟨#[]⟩] 112) w10.heap.size 2 (fun i v hv => by rw [World.cell?_alloc_new]; rw [← Array.getElem?_toList]; exact hv)).mono ?_
 rintro e w11 ⟨rfl, hl11⟩
 have HL11 := Lib.hid (HV3.out.1.trans (HV6.out.1.trans ((HL10.out.alloc _).trans hl11)))
 clear hl11 HSP c62 e0 e1 e2 e3 e4 e5 e6 e7 e8 e9 e10 e11 hne
 go_wp2_with fail
 refine (awP w11 (HLW.out.later HL11.out)).mono ?_
 rintro e w12 ⟨hl12, a1, c1, g2, cap2, rfl, hents, hnums, hints⟩
 have HL12 := Lib.hid (HL11.out.trans hl12)
 have HEN := Lib.hid (And.intro hents (And.intro hnums hints))
 clear hl12 hents hnums hints HL11
 go_wp2_with fail
 obtain ⟨V12, hV12⟩ : ∃ V, w12.alloc (.cells #[.slice a1 2 c1, .slice (some ⟨g2, 0, none⟩) 3 cap2] 45) = V := ⟨_, rfl⟩
 have hlv : Later w12 V12 := by rw [← hV12]; exact (Later.refl w12).alloc _
 have hkv : V12.heap[w12.heap.size]? = some (.cells #[.slice a1 2 c1, .slice (some ⟨g2, 0, none⟩) 3 cap2] 45 (0, 0)) := by rw [← hV12]; exact (MapKept.heap_alloc w12 _).1
 rw [hV12]
 have HLV := Lib.hid (And.intro (HL12.out.trans hlv) (And.intro hkv hlv))
 clear hV12 hlv hkv
 refine (awF _ _ V12 (HLW.out.later HLV.out.1) (HEN.out.1.later HLV.out.2.2) (HEN.out.2.1.later HLV.out.2.2)).mono ?_
 rintro e w13 ⟨rfl, hl13⟩
 have hk13 := (hl13.block w12.heap.size (Array.getElem?_eq_some_iff.1 HLV.out.2.1).1).trans HLV.out.2.1
 have d0 : w13.cell? ⟨w12.heap.size, 0, none⟩ = some (.slice a1 2 c1) := by rw [Lib.cell_of_heap hk13]; rfl
 have d1 : w13.cell? ⟨w12.heap.size, 1, none⟩ = some (.slice (some ⟨g2, 0, none⟩) 3 cap2) := by rw [Lib.cell_of_heap hk13]; rfl
 have HSI := Lib.hid (show Calls Tryz.prog 52 #[.slice (some ⟨g2, 0, none⟩) 3 cap2, .slice (some ⟨w13.heap.size, 0, none⟩) 3 3] (w13.alloc (.cells #[.int .i64 0, .int .i64 (-1), .int .i64 5] 3)) fun e w' => e = .returned (.bool true) ∧ Later (w13.alloc (.cells #[.int .i64 0, .int .i64 (-1), .int .i64 5] 3)) w' from
  SameInts_is g2 0 w13.heap.size 0 [0, -1, 5] [0, -1, 5] 3 cap2 3 rfl rfl (by omega) _ (fun i hi => cell_at ((HLV.out.2.2.trans hl13).alloc _) (HEN.out.2.2 i hi) (cell_lt (HEN.out.2.2 i hi))) (fun i hi => by
   rw [World.cell?_alloc_new, Nat.zero_add]
   have : i = 0 ∨ i = 1 ∨ i = 2 := by simp at hi; omega
   rcases this with rfl | rfl | rfl <;> rfl) true (by decide))
 have HL13 := Lib.hid (HLV.out.1.trans hl13)
 clear hl13 hk13
 go_wp2_with fail
 refine HSI.out.mono ?_
 rintro e w14 ⟨rfl, hl14⟩
 have HF := Lib.hid ((HL13.out.alloc _).trans hl14)
 clear hl14 HSI d0 d1
 go_wp2_with fail
 go_ret
 exact ⟨rfl, HF.out⟩
end Go.Proofs.YtkbedajbbakihaaGreatDoor
