/-
 Texts of this proof, put together (VxR): each part's first words say what it holds. Conditions: as each part says.
-/
import Derived.Test.YtkbedajbbakihaaGreatDoorVc
/-
 ScriptReads, walked. Conditions: the listed variables read as laid.
-/
namespace Go.Proofs.YtkbedajbbakihaaGreatDoor
open Go.RowKit
set_option linter.unusedSimpArgs false
set_option linter.unusedVariables false

set_option maxRecDepth 100000 in
set_option maxHeartbeats 4000000 in
theorem ScriptReads_is (s : ByteArray) (w : World) (hw : Laid w) : Calls Tryz.prog 6 #[.string s] w fun e w' => e = .returned (.bool true) ∧ Later w w' := by
 have hss : (⟨s.data.toList.toArray⟩ : ByteArray) = s := by apply ByteArray.ext; simp
 have hp1 := fun W (hL : Laid W) => Parse_fl s.data.toList W hL
 have hp2 := fun W => refParse_fl s W
 obtain ⟨hn, hm, hwf⟩ := pS_small s.data.toList
 unfold strV at hp1
 rw [hss] at hp1
 obtain ⟨st, hst⟩ : ∃ st, pS (parseP s.data.toList) = st := ⟨_, rfl⟩
 obtain ⟨x, hx⟩ : ∃ x, pNo (parseP s.data.toList) = x := ⟨_, rfl⟩
 obtain ⟨c, hc⟩ : ∃ c, pCo (parseP s.data.toList) = c := ⟨_, rfl⟩
 rw [hst, hx, hc] at hp1 hp2
 rw [hst] at hn hm hwf
 have hsame := fun ev pv eu pu W a1 a2 a3 a4 => SameScript_is ev pv eu pu st (by omega) (by omega) hwf W a1 a2 a3 a4
 have H1 := Lib.hid hp1
 have H2 := Lib.hid hp2
 have H3 := Lib.hid hsame
 have HW := Lib.hid hw
 clear hss hp1 hp2 hn hm hwf hst hx hc hsame hw
 go_enter Tryz.func6, Tryz.ntmps6
 go_wp2_with fail
 refine (H1.out w HW.out).mono ?_
 rintro y1 w1 ⟨hl1, ao, ca, bo, cb, rfl, hE, hP⟩
 obtain ⟨n, hn⟩ : ∃ n, st.1.length = n := ⟨_, rfl⟩
 obtain ⟨m, hm⟩ : ∃ m, st.2.length = m := ⟨_, rfl⟩
 have HNM := Lib.hid (And.intro hn hm)
 rw [hn] at hE ⊢
 rw [hm] at hP ⊢
 have HL1 := Lib.hid hl1
 have HEP := Lib.hid (And.intro hE hP)
 clear hl1 hE hP hn hm
 go_wp2_with fail
 obtain ⟨V1, hV1⟩ : ∃ V, w1.alloc (.cells #[.slice ao n ca, .slice bo m cb] 45) = V := ⟨_, rfl⟩
 have hlv : Later w1 V1 := by rw [← hV1]; exact (Later.refl w1).alloc _
 have hkv : V1.heap[w1.heap.size]? = some (.cells #[.slice ao n ca, .slice bo m cb] 45 (0, 0)) := by rw [← hV1]; exact (MapKept.heap_alloc w1 _).1
 rw [hV1]
 have HV1 := Lib.hid (And.intro hlv hkv)
 clear hV1 hlv hkv
 refine (H2.out V1).mono ?_
 rintro y2 w2 ⟨hl2, ap, cp, aq, cq, rfl, hE, hP⟩
 rw [HNM.out.1] at hE ⊢
 rw [HNM.out.2] at hP ⊢
 have HL2 := Lib.hid hl2
 have HEQ := Lib.hid (And.intro hE hP)
 clear hl2 hE hP
 go_upto_region 3 with fail
 obtain ⟨V2, hV2⟩ : ∃ V, w2.alloc (.cells #[.slice ap n cp, .slice aq m cq] 45) = V := ⟨_, rfl⟩
 have hlv : Later w2 V2 := by rw [← hV2]; exact (Later.refl w2).alloc _
 have hk2 : V2.heap[w2.heap.size]? = some (.cells #[.slice ap n cp, .slice aq m cq] 45 (0, 0)) := by rw [← hV2]; exact (MapKept.heap_alloc w2 _).1
 have hlt := HL2.out.trans hlv
 have hk1 := (hlt.block _ (Array.getElem?_eq_some_iff.1 HV1.out.2).1).trans HV1.out.2
 have c0 : V2.cell? ⟨w1.heap.size, 0, none⟩ = some (.slice ao n ca) := by rw [Lib.cell_of_heap hk1]; rfl
 have c1 : V2.cell? ⟨w1.heap.size, 1, none⟩ = some (.slice bo m cb) := by rw [Lib.cell_of_heap hk1]; rfl
 have c2 : V2.cell? ⟨w2.heap.size, 0, none⟩ = some (.slice ap n cp) := by rw [Lib.cell_of_heap hk2]; rfl
 have c3 : V2.cell? ⟨w2.heap.size, 1, none⟩ = some (.slice aq m cq) := by rw [Lib.cell_of_heap hk2]; rfl
 have HS := Lib.hid (H3.out (.slice ao n ca) (.slice bo m cb) (.slice ap n cp) (.slice aq m cq) V2 (by have h := HEP.out.1.later (HV1.out.1.trans hlt); exact h) (by have h := HEP.out.2.later (HV1.out.1.trans hlt); exact h) (HEQ.out.1.later hlv) (HEQ.out.2.later hlv))
 have HLV := Lib.hid (HL1.out.trans (HV1.out.1.trans hlt))
 rw [hV2]
 clear hV2 hlv hk2 hlt hk1
 go_wp2_with fail
 refine HS.out.mono ?_
 rintro y3 w3 ⟨rfl, hl3⟩
 have HL3 := Lib.hid (HLV.out.trans hl3)
 clear hl3 c0 c1 c2 c3
 go_wp2_with fail
 refine (awake_is _ (HW.out.later HL3.out)).mono ?_
 rintro y4 w4 ⟨rfl, hl4⟩
 have HL4 := Lib.hid (HL3.out.trans hl4)
 clear hl4
 go_wp2_with fail
 go_ret
 exact ⟨rfl, HL4.out⟩
end Go.Proofs.YtkbedajbbakihaaGreatDoor
