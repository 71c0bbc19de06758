/-
 Texts of this proof, put together (ExZ, AsZ, As2): each part's first words say what it holds. Conditions: as each part says.
-/
import Derived.Test.YtkbedajbbakihaaGreatDoorQe1
import Derived.Test.YtkbedajbbakihaaGreatDoorQh1
import Derived.Test.YtkbedajbbakihaaGreatDoorQg
import Derived.LoopN
import Derived.Deep.WholeRow
/-
 The law's examples, plainly. Conditions: none.
-/
namespace Go.Proofs.YtkbedajbbakihaaGreatDoor
open Go.Lib
set_option linter.unusedSimpArgs false
set_option linter.unusedVariables false

theorem showP_mk {r : Req} (hr : r.ok) {ws : List (List UInt8)} (h : lineP r = some ws) (hl : limOk r) (hb : bare r = r) : showP r = some (jn ws) ∧ readR ws = some r := by
 rcases (read_line r hr ws h).2 with ⟨_, h1⟩ | ⟨h1, _⟩
 ·rw [hb] at h1
  exact ⟨showP_of_read h1, h1⟩
 ·exact absurd hl h1
theorem it0 : Lib.itoa 0 = [48] := by kernel_rfl
theorem it5 : Lib.itoa 5 = [53] := by kernel_rfl
/-- put 1.1.rw key - -/
def exR1 : Req := { req0 with deed := 2, ht := 1, hg := 1, hr := 3, key := [107, 101, 121] }
/-- issue 3 rs -/
def exR2 : Req := { req0 with deed := 9, ten := 3, rts := 5 }
/-- create 1 9 90 -/
def exR3 : Req := { req0 with deed := 7, ten := 1, qk := 9, qb := 90 }
/-- get 1.1.r a -/
def exR4 : Req := { req0 with deed := 1, ht := 1, hg := 1, hr := 1, key := [97] }
theorem exR1_fit : exR1.ok := by refine ⟨?_, ?_, ?_, ?_⟩ <;> simp [exR1, req0]
theorem exR2_fit : exR2.ok := by refine ⟨?_, ?_, ?_, ?_⟩ <;> simp [exR2, req0]
theorem exR3_fit : exR3.ok := by refine ⟨?_, ?_, ?_, ?_⟩ <;> simp [exR3, req0]
theorem exR4_fit : exR4.ok := by refine ⟨?_, ?_, ?_, ?_⟩ <;> simp [exR4, req0]
theorem exL1 : lineP exR1 = some [[112, 117, 116], [49, 46, 49, 46, 114, 119], [107, 101, 121], [45]] := by kernel_rfl
theorem exL2 : lineP exR2 = some [[105, 115, 115, 117, 101], [51], [114, 115]] := by kernel_rfl
theorem exL3 : lineP exR3 = some [[99, 114, 101, 97, 116, 101], [49], [57], [57, 48]] := by kernel_rfl
theorem exL4 : lineP exR4 = some [[103, 101, 116], [49, 46, 49, 46, 114], [97]] := by kernel_rfl
theorem exS1 : showP exR1 = some (jn [[112, 117, 116], [49, 46, 49, 46, 114, 119], [107, 101, 121], [45]]) ∧ readR [[112, 117, 116], [49, 46, 49, 46, 114, 119], [107, 101, 121], [45]] = some exR1 := showP_mk exR1_fit exL1 (fun h => by cases h) rfl
theorem exS2 : showP exR2 = some (jn [[105, 115, 115, 117, 101], [51], [114, 115]]) ∧ readR [[105, 115, 115, 117, 101], [51], [114, 115]] = some exR2 := showP_mk exR2_fit exL2 (fun h => by cases h) rfl
theorem exS3 : showP exR3 = some (jn [[99, 114, 101, 97, 116, 101], [49], [57], [57, 48]]) ∧ readR [[99, 114, 101, 97, 116, 101], [49], [57], [57, 48]] = some exR3 := showP_mk exR3_fit exL3 (fun h => by cases h) rfl
theorem exS4 : showP exR4 = some (jn [[103, 101, 116], [49, 46, 49, 46, 114], [97]]) ∧ readR [[103, 101, 116], [49, 46, 49, 46, 114], [97]] = some exR4 := showP_mk exR4_fit exL4 (fun h => by cases h) rfl
theorem exW1 : unword [97, 37, 50, 48, 98] = some [97, 32, 98] := unword_word [97, 32, 98]
theorem exW2 : unword [37, 54, 49] = none := by rw [unword_eq]; rfl
theorem exRead1 : readR (spl [112, 117, 116, 32, 49, 46, 49, 46, 114, 119, 32, 107, 101, 121, 32, 45]) = some exR1 := exS1.2
theorem exRead2 : readR (spl [103, 101, 116, 32, 49, 46, 49, 46, 114, 119]) = none := by
 show readR [[103, 101, 116], [49, 46, 49, 46, 114, 119]] = none
 rw [readR, show deedW [103, 101, 116] = some 1 from rfl, Option.bind_some]
 show foldF [.hdl, .key] _ _ = none
 rw [foldF]
 cases stepF .hdl [49, 46, 49, 46, 114, 119] { req0 with deed := ((1 : Nat) : Int) } <;> rfl
theorem exShow2 : showP exR2 = some [105, 115, 115, 117, 101, 32, 51, 32, 114, 115] := exS2.1
theorem exAns1 : AnsCase (spl [112, 97, 105, 114, 115, 32, 97, 32, 49, 32, 98, 32, 45]) (some (0, [], [([97], [49]), ([98], [])])) := AnsCase.prs (ps := [([97], [49]), ([98], [])]) (by simp) (by simp)
theorem exAns2 : AnsCase (spl [101, 114, 114, 111, 114, 32, 48]) none := AnsCase.err0 (x := [48]) (by rw [← it0]; exact num_itoa 0 (by omega) (by omega))
/-- the script of the example -/
def exScr : Scr := ([(0, exR3), (1, exR4)], [0, -1, 5])
def exTxt : List UInt8 := [48, 32, 99, 114, 101, 97, 116, 101, 32, 49, 32, 57, 32, 57, 48, 10, 112, 105, 99, 107, 115, 32, 48, 32, 45, 49, 10, 49, 32, 103, 101, 116, 32, 49, 46, 49, 46, 114, 32, 97, 10, 112, 105, 99, 107, 115, 32, 53, 10]
def exFmt : List UInt8 := [48, 32, 99, 114, 101, 97, 116, 101, 32, 49, 32, 57, 32, 57, 48, 10, 49, 32, 103, 101, 116, 32, 49, 46, 49, 46, 114, 32, 97, 10, 112, 105, 99, 107, 115, 32, 48, 32, 45, 49, 32, 53, 10]
theorem exE1 : entL (0, exR3) = some [48, 32, 99, 114, 101, 97, 116, 101, 32, 49, 32, 57, 32, 57, 48, 10] := by
 unfold entL
 rw [exS3.1, Option.bind_some, if_pos (by decide)]
 kernel_rfl
theorem exE2 : entL (1, exR4) = some [49, 32, 103, 101, 116, 32, 49, 46, 49, 46, 114, 32, 97, 10] := by
 unfold entL
 rw [exS4.1, Option.bind_some, if_pos (by decide)]
 kernel_rfl
theorem exFormat : fmtP exScr = .ok exFmt := by
 unfold fmtP
 rw [show bigP exScr = false from rfl, if_neg (by simp)]
 have h : entsL exScr.1 = some ([48, 32, 99, 114, 101, 97, 116, 101, 32, 49, 32, 57, 32, 57, 48, 10] ++ [49, 32, 103, 101, 116, 32, 49, 46, 49, 46, 114, 32, 97, 10]) := by
  show entsL [(0, exR3), (1, exR4)] = _
  rw [entsL, exE1, Option.bind_some, entsL, exE2]
  rfl
 rw [h]
 simp only
 have h2 : [48, 32, 99, 114, 101, 97, 116, 101, 32, 49, 32, 57, 32, 57, 48, 10] ++ [49, 32, 103, 101, 116, 32, 49, 46, 49, 46, 114, 32, 97, 10] ++ pkF exScr.2.length 0 exScr.2 = exFmt := by kernel_rfl
 rw [h2, if_neg (by decide)]
theorem exParse : parseP exTxt = .ok exScr := by
 unfold parseP
 rw [if_neg (by decide)]
 have h1 : lns exTxt = [([48, 32, 99, 114, 101, 97, 116, 101, 32, 49, 32, 57, 32, 57, 48], true), ([112, 105, 99, 107, 115, 32, 48, 32, 45, 49], true), ([49, 32, 103, 101, 116, 32, 49, 46, 49, 46, 114, 32, 97], true), ([112, 105, 99, 107, 115, 32, 53], true)] := by kernel_rfl
 rw [h1]
 obtain ⟨l1, e1, _, k1⟩ := ent_line exE1
 obtain ⟨l2, e2, _, k2⟩ := ent_line exE2
 have p1 : lnP ([112, 105, 99, 107, 115, 32, 48, 32, 45, 49], true) = some (.inl [0, -1]) := by
  have h := (pk_line [0, -1] (by simp) (by intro p hp; simp at hp; rcases hp with rfl | rfl <;> exact ⟨by omega, by omega⟩)).2
  rwa [show jn (picksN :: List.map Lib.itoa [0, -1]) = [112, 105, 99, 107, 115, 32, 48, 32, 45, 49] by kernel_rfl] at h
 have p2 : lnP ([112, 105, 99, 107, 115, 32, 53], true) = some (.inl [5]) := by
  have h := (pk_line [5] (by simp) (by intro p hp; simp at hp; subst hp; exact ⟨by omega, by omega⟩)).2
  rwa [show jn (picksN :: List.map Lib.itoa [5]) = [112, 105, 99, 107, 115, 32, 53] by kernel_rfl] at h
 have q1 : l1 = [48, 32, 99, 114, 101, 97, 116, 101, 32, 49, 32, 57, 32, 57, 48] := (List.append_inj_left' (t₁ := [10]) (t₂ := [10]) (s₁ := [48, 32, 99, 114, 101, 97, 116, 101, 32, 49, 32, 57, 32, 57, 48]) (s₂ := l1) e1 rfl).symm
 have q2 : l2 = [49, 32, 103, 101, 116, 32, 49, 46, 49, 46, 114, 32, 97] := (List.append_inj_left' (t₁ := [10]) (t₂ := [10]) (s₁ := [49, 32, 103, 101, 116, 32, 49, 46, 49, 46, 114, 32, 97]) (s₂ := l2) e2 rfl).symm
 subst q1 q2
 rw [runP_cons _ _ _ _ _ k1 rfl, runP_cons _ _ _ _ _ p1 rfl, runP_cons _ _ _ _ _ k2 rfl, runP_cons _ _ _ _ _ p2 rfl]
 rfl
end Go.Proofs.YtkbedajbbakihaaGreatDoor

/-
 ShowAnswer at errors, values and success, walked. Conditions: the value has at most 10^6 bytes; the listed variables read as laid.
-/
namespace Go.Proofs.YtkbedajbbakihaaGreatDoor
open Go.RowKit Go.Sort Go.Lib
set_option linter.unusedSimpArgs false
set_option linter.unusedVariables false

theorem eq34 (W : World) : (binOp .eql 34 (.agg #[.int .i64 0, .int .u32 0, .int .u8 0]) (.agg #[.int .i64 0, .int .u32 0, .int .u8 0])).run Tryz.prog W = .ok (.bool true) W := by kernel_rfl
theorem eq79 (W : World) : (binOp .eql 79 (.agg #[.int .u64 0, .int .u64 0, .int .u64 0, .int .u64 0, .int .u64 0, .int .u64 0, .int .u64 0, .int .u64 0, .int .u64 0, .int .u64 0, .complex .f64 0 0]) (.agg #[.int .u64 0, .int .u64 0, .int .u64 0, .int .u64 0, .int .u64 0, .int .u64 0, .int .u64 0, .int .u64 0, .int .u64 0, .int .u64 0, .complex .f64 0 0])).run Tryz.prog W = .ok (.bool true) W := by kernel_rfl
set_option maxRecDepth 100000 in
set_option maxHeartbeats 4000000 in
theorem nothing_yes (w : World) : Calls Tryz.prog 88 #[.agg (ansA 0 [] nilS)] w fun e w' => e = .returned (.bool true) ∧ Later w w' := by
 have h34 := eq34
 have h79 := eq79
 have HL := Lib.hid (fun o => (Later.refl w).alloc o)
 unfold ansA strV
 go_enter Tryz.func88, Tryz.ntmps88
 go_wp2_with fail
 go_ret
 exact ⟨rfl, HL.out _⟩
set_option maxRecDepth 100000 in
set_option maxHeartbeats 4000000 in
theorem nothing_no (val : List UInt8) (h0 : val ≠ []) (w : World) : Calls Tryz.prog 88 #[.agg (ansA 0 val nilS)] w fun e w' => e = .returned (.bool false) ∧ Later w w' := by
 obtain ⟨T, hT⟩ : ∃ T : ByteArray, T = ⟨val.toArray⟩ := ⟨_, rfl⟩
 have hTn : T.toList ≠ [] := by rw [hT, ByteArray.toList_mk]; exact h0
 have hTe : T.toList.isEmpty = false := by rw [hT, ByteArray.toList_mk]; cases val with | nil => exact absurd rfl h0 | cons => rfl
 have HL := Lib.hid (fun o => (Later.refl w).alloc o)
 unfold ansA strV
 rw [← hT]
 clear hT h0
 go_enter Tryz.func88, Tryz.ntmps88
 go_wp2_with fail
 go_ret
 exact ⟨rfl, HL.out _⟩
set_option maxRecDepth 100000 in
set_option maxHeartbeats 4000000 in
theorem sameAnswer_yes (n : Int) (val : List UInt8) (w : World) : Calls Tryz.prog 91 #[.agg (ansA n val nilS), .agg (ansA n val nilS)] w fun e w' => e = .returned (.bool true) ∧ Later w w' := by
 obtain ⟨T, hT⟩ : ∃ T : ByteArray, T = ⟨val.toArray⟩ := ⟨_, rfl⟩
 have h34 := eq34
 have h79 := eq79
 have HL := Lib.hid (fun o o2 => ((Later.refl w).alloc o).alloc o2)
 unfold ansA strV
 rw [← hT]
 clear hT
 go_enter Tryz.func91, Tryz.ntmps91
 go_wp2_with fail
 refine wp_loop_rounds 1 ?_
 rw [rounds_succ]
 go_wp2_with fail
 go_ret
 exact ⟨rfl, HL.out _ _⟩

theorem ans_block (w : World) (A : Array Value) : (w.alloc (.cells A 81)).heap[w.heap.size]? = some (.cells A 81 (0, 0)) := (MapKept.heap_alloc w _).1
theorem row_range {w : World} {b : Nat} {A : Array Value} {t : TypeId} (h : w.heap[b]? = some (.cells A t (0, 0))) : w.rangeAt b 0 A.toList := fun j u hj => by
 rw [Nat.zero_add, Lib.cell_of_heap h]
 show A[j]? = some u
 rw [← Array.getElem?_toList]
 exact hj
/-- how ShowAnswer ends -/
def SAEnd (t : List UInt8) (w : World) (e : Ending) (w' : World) : Prop := Later w w' ∧ e = .returned (.tuple #[strV t, .int .i64 0])
/-- behind the words: the text is put together and read back -/
theorem spl_two (a b : List UInt8) (h : (32 : UInt8) ∉ a) (k : (32 : UInt8) ∉ b) : spl (jn [a, b]) = [a, b] := spl_jn _ (by simp) (by simp; exact ⟨h, k⟩)
end Go.Proofs.YtkbedajbbakihaaGreatDoor

/-
 ShowAnswer at errors, values and success, walked: the three ways. Conditions: the value has at most 10^6 bytes; the listed variables read as laid.
-/
namespace Go.Proofs.YtkbedajbbakihaaGreatDoor
open Go.RowKit Go.Sort Go.Lib
set_option linter.unusedSimpArgs false
set_option linter.unusedVariables false

set_option maxRecDepth 100000 in
set_option maxHeartbeats 8000000 in
theorem ShowAnswer_err (n : Int) (h0 : 1 ≤ n) (h1 : n ≤ 999999999) (w : World) (hw : Laid w) : Calls Tryz.prog 57 #[.agg (ansA (n) ([]) nilS)] w (SAEnd (jn [nErr, Lib.itoa n]) w) := by
 have hlen : (jn [nErr, Lib.itoa n]).length ≤ 80000000 := by
  have h1 := jn_len [nErr, Lib.itoa n]
  have h2 := itoa_len n (by omega) (by omega); simp only [sumL, List.map_cons, List.map_nil, List.sum_cons, List.sum_nil, List.length_cons, List.length_nil, nErr] at *; omega
 have hcase : AnsCase (spl (jn [nErr, Lib.itoa n])) (some (n, [], [])) := by
  rw [spl_two _ _ (by decide) (itoa_no n 32 (by decide))]
  exact .err (num_itoa n (by omega) h1) (by omega)
 have HRA := Lib.hid (fun W1 (h1 : Laid W1) => ReadAnswer_is (jn [nErr, Lib.itoa n]) hlen _ hcase W1 h1)
 have HJ0 := Lib.hid (fun V x (h : JS V x [nErr, Lib.itoa n]) => join_is V x [nErr, Lib.itoa n] h (by have h2 := itoa_len n (by omega) (by omega); simp only [sumL, List.map_cons, List.map_nil, List.sum_cons, List.sum_nil, List.length_cons, List.length_nil, nErr] at *; omega))
 have HSA := Lib.hid (fun W1 => sameAnswer_yes (n) ([]) W1)
 have HLW := Lib.hid hw
 obtain ⟨tx, htx⟩ : ∃ tx, jn [nErr, Lib.itoa n] = tx := ⟨_, rfl⟩
 rw [htx] at HRA HJ0 ⊢
 obtain ⟨J, hJ⟩ : ∃ J : ByteArray, J = ⟨tx.toArray⟩ := ⟨_, rfl⟩
 obtain ⟨D, hD⟩ : ∃ D, ansA (n) ([]) nilS = D := ⟨_, rfl⟩
 have hDs : (Tryz.prog.info? 81).map (·.size) = some D.size := by rw [← hD]; exact ansA_info
 have hDl : (Tryz.prog.info? 81).map (·.size) = some D.toList.length := by rw [Array.length_toList]; exact hDs
 have hDz : (ansA 0 [] nilS).size = D.size := by cases hD; rfl
 have hDo : D.all (·.oneCell') = true := by rw [← hD]; exact ansA_one _ _ _ ⟨_, _, _, rfl⟩
 have hD0 : D[0]? = some (.int .i64 (n)) := by rw [← hD]; rfl
 have hD1 : D[1]? = some (strV ([])) := by rw [← hD]; rfl
 have HDD := Lib.hid (And.intro hDs (And.intro hDo (And.intro hDl hDz)))
 have HRA2 := Lib.hid (fun W1 (h1 : Laid W1) => show Calls Tryz.prog 56 #[.string J] W1 fun e w' => e = .returned (.tuple #[.agg D, .int .i64 0]) ∧ Later W1 w' from by
  rw [hJ]
  exact (HRA.out W1 h1).mono fun e w' ⟨k1, P, k2, _, k3⟩ => ⟨by rw [k2, k3 rfl, hD], k1⟩)
 rw [hD] at HSA
 rw [hD]
 have HJN := Lib.hid (fun V x (h : JS V x [nErr, Lib.itoa n]) => show Calls Tryz.prog 61 #[x] V fun e w' => e = .returned (.string J) ∧ Later V w' by rw [hJ]; exact HJ0.out V x h)
 have HF := Lib.hid (fun w' (hl : Later w w') => show SAEnd tx w (.returned (.tuple #[.string J, .int .i64 0])) w' by rw [hJ]; exact ⟨hl, rfl⟩)
 obtain ⟨N, hN⟩ : ∃ N, w.heap.size = N := ⟨_, rfl⟩
 obtain ⟨W1, hW1⟩ : ∃ W1, w.alloc (.cells D 81) = W1 := ⟨_, rfl⟩
 have hl1 : Later w W1 := by rw [← hW1]; exact (Later.refl w).alloc _
 have hk1 : W1.heap[N]? = some (.cells D 81 (0, 0)) := by rw [← hW1, ← hN]; exact ans_block w D
 have hNlt : N < W1.heap.size := by rw [← hW1, ← hN]; simp
 have c0 : W1.cell? ⟨N, 0, none⟩ = some (.int .i64 (n)) := by rw [Lib.cell_of_heap hk1]; exact hD0
 have c1 : W1.cell? ⟨N, 1, none⟩ = some (strV ([])) := by rw [Lib.cell_of_heap hk1]; exact hD1
 have HR := Lib.hid (row_range hk1)
 have HB := Lib.hid (And.intro hl1 (And.intro hk1 hNlt))
 have hnb : (n != 0) = true := by simp; omega
 obtain ⟨T1, hT1⟩ : ∃ T1 : ByteArray, T1 = ⟨(Lib.itoa n).toArray⟩ := ⟨_, rfl⟩
 have HIT := Lib.hid (fun V (hV : Laid V) => show Calls Tryz.prog 69 #[.int .i64 n] V fun e w' => e = .returned (.string T1) ∧ Later V w' by rw [hT1]; exact itoa_is n (by omega) (by omega) V hV)
 have HT1 := Lib.hid hT1
 clear hT1 h0 h1 c1
 have HW1 := Lib.hid (And.intro hW1 hN)
 clear HRA HJ0 hcase hlen hw hl1 hk1 hNlt hDs hDl hDz hDo hD0 hD1 hD htx hJ hW1 hN
 go_enter Tryz.func57, Tryz.ntmps57
 go_upto_region 1 with fail
 rw [HW1.out.2, HW1.out.1]
 clear HW1
 go_wp2_with fail
 refine (HIT.out W1 (HLW.out.later HB.out.1)).mono ?_
 rintro e WT ⟨rfl, hlT⟩
 have HLT := Lib.hid (show Later W1 WT from hlT)
 have hjs : JS (WT.alloc (.cells #[.string ⟨#[101, 114, 114, 111, 114]⟩, .string T1] 9)) (.slice (some ⟨WT.heap.size, 0, none⟩) 2 2) [nErr, Lib.itoa n] := by
  refine ⟨WT.heap.size, 2, rfl, by simp, by simp, fun j hj => ?_⟩
  rw [World.cell?_alloc_new]
  have : j = 0 ∨ j = 1 := by simp at hj; omega
  rcases this with rfl | rfl
  ·rfl
  ·rw [HT1.out]; rfl
 have HJC := Lib.hid (HJN.out _ _ hjs)
 have hne : ∀ W : World, (binOp .neq 24 (.int .i64 0) (.int .i64 0)).run Tryz.prog W = .ok (.bool false) W := fun W => by rfl
 clear hlT hjs HJN
 go_wp2_with fail
 refine HJC.out.mono ?_
 rintro e w4 ⟨rfl, hl4⟩
 have HL4 := Lib.hid ((HLT.out.alloc _).trans hl4)
 clear hl4 HJC HLT
 go_wp2_with fail
 refine (HRA2.out w4 (HLW.out.later (HB.out.1.trans HL4.out))).mono ?_
 rintro e w5 ⟨rfl, hl5⟩
 have HL5 := Lib.hid (HL4.out.trans hl5)
 clear hl5 HL4
 go_upto_region 21 with (refine wpList_store_rowTo rfl 81 (.tmp 10) (.tmp 77) rfl rfl w5.heap.size D rfl rfl 81 (ansA 0 [] nilS) (ans_block w5 (ansA 0 [] nilS)) HDD.out.1 HDD.out.2.2.2 HDD.out.2.1 ?_)
 have hz : (w5.alloc (.cells (ansA 0 [] nilS) 81)).setRow w5.heap.size D = w5.alloc (.cells D 81) := World.setRow_alloc_new _ _ _ _
 obtain ⟨M, hM⟩ : ∃ M, w5.heap.size = M := ⟨_, rfl⟩
 obtain ⟨W6, hW6⟩ : ∃ W6, w5.alloc (.cells D 81) = W6 := ⟨_, rfl⟩
 have hl6 : Later W1 W6 := by rw [← hW6]; exact HL5.out.alloc _
 have hk6 : W6.heap[M]? = some (.cells D 81 (0, 0)) := by rw [← hW6, ← hM]; exact ans_block w5 D
 have hz2 : (w5.alloc (.cells #[.int .i64 0, .string ⟨#[]⟩, .slice none 0 0, .int .i64 0, .int .u32 0, .int .u8 0, .int .u64 0, .int .u64 0, .int .u64 0, .int .u64 0, .int .u64 0, .int .u64 0, .int .u64 0, .int .u64 0, .int .u64 0, .int .u64 0, .complex .f64 0 0] 81)).setRow w5.heap.size D = W6 := by rw [← hW6]; exact hz
 rw [hz2, hM]
 have HRM := Lib.hid (row_range hk6)
 have HRN := Lib.hid (row_range ((hl6.block N HB.out.2.2).trans HB.out.2.1))
 have HL6 := Lib.hid hl6
 clear hz hz2 hM hW6 hl6 hk6
 go_wp2_with (first | (refine wpList_step (fun K1 hK1 => ?_); rw [if_pos (by rfl)]; refine wp_load_mid 81 (.tmp 10) rfl M 0 rfl D.toList _ HRM.out Tryz.underlying81 rfl HDD.out.2.2.1 ?_; rw [Array.toArray_toList]; refine hK1 _ _ ?_) | (refine wpList_step (fun K1 hK1 => ?_); rw [if_pos (by rfl)]; refine wp_load_mid 81 (.tmp 1) rfl N 0 rfl D.toList _ HRN.out Tryz.underlying81 rfl HDD.out.2.2.1 ?_; rw [Array.toArray_toList]; refine hK1 _ _ ?_))
 refine (HSA.out W6).mono ?_
 rintro e w7 ⟨rfl, hl7⟩
 have HFF := Lib.hid (HF.out w7 (HB.out.1.trans (HL6.out.trans hl7)))
 clear hl7
 go_wp2_with fail
 go_ret2
 exact HFF.out

set_option maxRecDepth 100000 in
set_option maxHeartbeats 8000000 in
theorem ShowAnswer_val (val : List UInt8) (h0 : val ≠ []) (h1 : val.length ≤ 1000000) (w : World) (hw : Laid w) : Calls Tryz.prog 57 #[.agg (ansA (0) (val) nilS)] w (SAEnd (jn [nVal, word val]) w) := by
 have hlen : (jn [nVal, word val]).length ≤ 80000000 := by
  have h1 := jn_len [nVal, word val]
  have h2 := word_len val; simp only [sumL, List.map_cons, List.map_nil, List.sum_cons, List.sum_nil, List.length_cons, List.length_nil, nVal] at *; omega
 have hcase : AnsCase (spl (jn [nVal, word val])) (some (0, val, [])) := by
  rw [spl_two _ _ (by decide) (word_no val)]
  exact .val (unword_word val) h0
 have HRA := Lib.hid (fun W1 (h1 : Laid W1) => ReadAnswer_is (jn [nVal, word val]) hlen _ hcase W1 h1)
 have HJ0 := Lib.hid (fun V x (h : JS V x [nVal, word val]) => join_is V x [nVal, word val] h (by have h2 := word_len val; simp only [sumL, List.map_cons, List.map_nil, List.sum_cons, List.sum_nil, List.length_cons, List.length_nil, nVal] at *; omega))
 have HSA := Lib.hid (fun W1 => sameAnswer_yes (0) (val) W1)
 have HLW := Lib.hid hw
 obtain ⟨tx, htx⟩ : ∃ tx, jn [nVal, word val] = tx := ⟨_, rfl⟩
 rw [htx] at HRA HJ0 ⊢
 obtain ⟨J, hJ⟩ : ∃ J : ByteArray, J = ⟨tx.toArray⟩ := ⟨_, rfl⟩
 obtain ⟨D, hD⟩ : ∃ D, ansA (0) (val) nilS = D := ⟨_, rfl⟩
 have hDs : (Tryz.prog.info? 81).map (·.size) = some D.size := by rw [← hD]; exact ansA_info
 have hDl : (Tryz.prog.info? 81).map (·.size) = some D.toList.length := by rw [Array.length_toList]; exact hDs
 have hDz : (ansA 0 [] nilS).size = D.size := by cases hD; rfl
 have hDo : D.all (·.oneCell') = true := by rw [← hD]; exact ansA_one _ _ _ ⟨_, _, _, rfl⟩
 have hD0 : D[0]? = some (.int .i64 (0)) := by rw [← hD]; rfl
 have hD1 : D[1]? = some (strV (val)) := by rw [← hD]; rfl
 have HDD := Lib.hid (And.intro hDs (And.intro hDo (And.intro hDl hDz)))
 have HRA2 := Lib.hid (fun W1 (h1 : Laid W1) => show Calls Tryz.prog 56 #[.string J] W1 fun e w' => e = .returned (.tuple #[.agg D, .int .i64 0]) ∧ Later W1 w' from by
  rw [hJ]
  exact (HRA.out W1 h1).mono fun e w' ⟨k1, P, k2, _, k3⟩ => ⟨by rw [k2, k3 rfl, hD], k1⟩)
 rw [hD] at HSA
 rw [hD]
 have HJN := Lib.hid (fun V x (h : JS V x [nVal, word val]) => show Calls Tryz.prog 61 #[x] V fun e w' => e = .returned (.string J) ∧ Later V w' by rw [hJ]; exact HJ0.out V x h)
 have HF := Lib.hid (fun w' (hl : Later w w') => show SAEnd tx w (.returned (.tuple #[.string J, .int .i64 0])) w' by rw [hJ]; exact ⟨hl, rfl⟩)
 obtain ⟨N, hN⟩ : ∃ N, w.heap.size = N := ⟨_, rfl⟩
 obtain ⟨W1, hW1⟩ : ∃ W1, w.alloc (.cells D 81) = W1 := ⟨_, rfl⟩
 have hl1 : Later w W1 := by rw [← hW1]; exact (Later.refl w).alloc _
 have hk1 : W1.heap[N]? = some (.cells D 81 (0, 0)) := by rw [← hW1, ← hN]; exact ans_block w D
 have hNlt : N < W1.heap.size := by rw [← hW1, ← hN]; simp
 have c0 : W1.cell? ⟨N, 0, none⟩ = some (.int .i64 (0)) := by rw [Lib.cell_of_heap hk1]; exact hD0
 have c1 : W1.cell? ⟨N, 1, none⟩ = some (strV (val)) := by rw [Lib.cell_of_heap hk1]; exact hD1
 have HR := Lib.hid (row_range hk1)
 have HB := Lib.hid (And.intro hl1 (And.intro hk1 hNlt))
 obtain ⟨T0, hT0⟩ : ∃ T0 : ByteArray, T0 = ⟨val.toArray⟩ := ⟨_, rfl⟩
 have hTn : T0.toList ≠ [] := by rw [hT0, ByteArray.toList_mk]; exact h0
 have hTe : T0.toList.isEmpty = false := by rw [hT0, ByteArray.toList_mk]; cases val with | nil => exact absurd rfl h0 | cons => rfl
 obtain ⟨T1, hT1⟩ : ∃ T1 : ByteArray, T1 = ⟨(word val).toArray⟩ := ⟨_, rfl⟩
 have HWD := Lib.hid (fun V => show Calls Tryz.prog 11 #[.string T0] V fun e w' => e = .returned (.string T1) ∧ Later V w' by rw [hT1, hT0]; exact Word_l val (by omega) V)
 have HNO := Lib.hid (fun W1 => show Calls Tryz.prog 88 #[.agg D] W1 fun e w' => e = .returned (.bool false) ∧ Later W1 w' by rw [← hD]; exact nothing_no val h0 W1)
 have HT1 := Lib.hid hT1
 unfold strV at c1
 rw [← hT0] at c1
 have HC1 := Lib.hid c1
 clear hT0 hT1 h0 h1 c1
 have HW1 := Lib.hid (And.intro hW1 hN)
 clear HRA HJ0 hcase hlen hw hl1 hk1 hNlt hDs hDl hDz hDo hD0 hD1 hD htx hJ hW1 hN
 go_enter Tryz.func57, Tryz.ntmps57
 go_upto_region 1 with fail
 rw [HW1.out.2, HW1.out.1]
 clear HW1
 go_wp2_with (refine wpList_load_mid rfl 81 (.tmp 1) rfl N 0 rfl D.toList _ HR.out Tryz.underlying81 rfl HDD.out.2.2.1 ?_; rw [Array.toArray_toList])
 refine (HNO.out W1).mono ?_
 rintro e w2 ⟨rfl, hl2⟩
 have c2 : w2.cell? ⟨N, 1, none⟩ = some (.string T0) := cell_at hl2 HC1.out HB.out.2.2
 have HL2 := Lib.hid hl2
 clear hl2
 go_wp2_with fail
 refine (HWD.out w2).mono ?_
 rintro e WT ⟨rfl, hlT0⟩
 have hlT := HL2.out.trans hlT0
 clear hlT0 c2
 have HLT := Lib.hid (show Later W1 WT from hlT)
 have hjs : JS (WT.alloc (.cells #[.string ⟨#[118, 97, 108, 117, 101]⟩, .string T1] 9)) (.slice (some ⟨WT.heap.size, 0, none⟩) 2 2) [nVal, word val] := by
  refine ⟨WT.heap.size, 2, rfl, by simp, by simp, fun j hj => ?_⟩
  rw [World.cell?_alloc_new]
  have : j = 0 ∨ j = 1 := by simp at hj; omega
  rcases this with rfl | rfl
  ·rfl
  ·rw [HT1.out]; rfl
 have HJC := Lib.hid (HJN.out _ _ hjs)
 have hne : ∀ W : World, (binOp .neq 24 (.int .i64 0) (.int .i64 0)).run Tryz.prog W = .ok (.bool false) W := fun W => by rfl
 clear hlT hjs HJN
 go_wp2_with fail
 refine HJC.out.mono ?_
 rintro e w4 ⟨rfl, hl4⟩
 have HL4 := Lib.hid ((HLT.out.alloc _).trans hl4)
 clear hl4 HJC HLT
 go_wp2_with fail
 refine (HRA2.out w4 (HLW.out.later (HB.out.1.trans HL4.out))).mono ?_
 rintro e w5 ⟨rfl, hl5⟩
 have HL5 := Lib.hid (HL4.out.trans hl5)
 clear hl5 HL4
 go_upto_region 21 with (refine wpList_store_rowTo rfl 81 (.tmp 10) (.tmp 77) rfl rfl w5.heap.size D rfl rfl 81 (ansA 0 [] nilS) (ans_block w5 (ansA 0 [] nilS)) HDD.out.1 HDD.out.2.2.2 HDD.out.2.1 ?_)
 have hz : (w5.alloc (.cells (ansA 0 [] nilS) 81)).setRow w5.heap.size D = w5.alloc (.cells D 81) := World.setRow_alloc_new _ _ _ _
 obtain ⟨M, hM⟩ : ∃ M, w5.heap.size = M := ⟨_, rfl⟩
 obtain ⟨W6, hW6⟩ : ∃ W6, w5.alloc (.cells D 81) = W6 := ⟨_, rfl⟩
 have hl6 : Later W1 W6 := by rw [← hW6]; exact HL5.out.alloc _
 have hk6 : W6.heap[M]? = some (.cells D 81 (0, 0)) := by rw [← hW6, ← hM]; exact ans_block w5 D
 have hz2 : (w5.alloc (.cells #[.int .i64 0, .string ⟨#[]⟩, .slice none 0 0, .int .i64 0, .int .u32 0, .int .u8 0, .int .u64 0, .int .u64 0, .int .u64 0, .int .u64 0, .int .u64 0, .int .u64 0, .int .u64 0, .int .u64 0, .int .u64 0, .int .u64 0, .complex .f64 0 0] 81)).setRow w5.heap.size D = W6 := by rw [← hW6]; exact hz
 rw [hz2, hM]
 have HRM := Lib.hid (row_range hk6)
 have HRN := Lib.hid (row_range ((hl6.block N HB.out.2.2).trans HB.out.2.1))
 have HL6 := Lib.hid hl6
 clear hz hz2 hM hW6 hl6 hk6
 go_wp2_with (first | (refine wpList_step (fun K1 hK1 => ?_); rw [if_pos (by rfl)]; refine wp_load_mid 81 (.tmp 10) rfl M 0 rfl D.toList _ HRM.out Tryz.underlying81 rfl HDD.out.2.2.1 ?_; rw [Array.toArray_toList]; refine hK1 _ _ ?_) | (refine wpList_step (fun K1 hK1 => ?_); rw [if_pos (by rfl)]; refine wp_load_mid 81 (.tmp 1) rfl N 0 rfl D.toList _ HRN.out Tryz.underlying81 rfl HDD.out.2.2.1 ?_; rw [Array.toArray_toList]; refine hK1 _ _ ?_))
 refine (HSA.out W6).mono ?_
 rintro e w7 ⟨rfl, hl7⟩
 have HFF := Lib.hid (HF.out w7 (HB.out.1.trans (HL6.out.trans hl7)))
 clear hl7
 go_wp2_with fail
 go_ret2
 exact HFF.out

set_option maxRecDepth 100000 in
set_option maxHeartbeats 8000000 in
theorem ShowAnswer_ok  (w : World) (hw : Laid w) : Calls Tryz.prog 57 #[.agg (ansA (0) ([]) nilS)] w (SAEnd (jn [nOk]) w) := by
 have hlen : (jn [nOk]).length ≤ 80000000 := by
  have h1 := jn_len [nOk]
  simp only [sumL, List.map_cons, List.map_nil, List.sum_cons, List.sum_nil, List.length_cons, List.length_nil, nOk] at *; omega
 have hcase : AnsCase (spl (jn [nOk])) (some (0, [], [])) := .ok
 have HRA := Lib.hid (fun W1 (h1 : Laid W1) => ReadAnswer_is (jn [nOk]) hlen _ hcase W1 h1)
 have HJ0 := Lib.hid (fun V x (h : JS V x [nOk]) => join_is V x [nOk] h (by simp only [sumL, List.map_cons, List.map_nil, List.sum_cons, List.sum_nil, List.length_cons, List.length_nil, nOk] at *; omega))
 have HSA := Lib.hid (fun W1 => sameAnswer_yes (0) ([]) W1)
 have HLW := Lib.hid hw
 obtain ⟨tx, htx⟩ : ∃ tx, jn [nOk] = tx := ⟨_, rfl⟩
 rw [htx] at HRA HJ0 ⊢
 obtain ⟨J, hJ⟩ : ∃ J : ByteArray, J = ⟨tx.toArray⟩ := ⟨_, rfl⟩
 obtain ⟨D, hD⟩ : ∃ D, ansA (0) ([]) nilS = D := ⟨_, rfl⟩
 have hDs : (Tryz.prog.info? 81).map (·.size) = some D.size := by rw [← hD]; exact ansA_info
 have hDl : (Tryz.prog.info? 81).map (·.size) = some D.toList.length := by rw [Array.length_toList]; exact hDs
 have hDz : (ansA 0 [] nilS).size = D.size := by cases hD; rfl
 have hDo : D.all (·.oneCell') = true := by rw [← hD]; exact ansA_one _ _ _ ⟨_, _, _, rfl⟩
 have hD0 : D[0]? = some (.int .i64 (0)) := by rw [← hD]; rfl
 have hD1 : D[1]? = some (strV ([])) := by rw [← hD]; rfl
 have HDD := Lib.hid (And.intro hDs (And.intro hDo (And.intro hDl hDz)))
 have HRA2 := Lib.hid (fun W1 (h1 : Laid W1) => show Calls Tryz.prog 56 #[.string J] W1 fun e w' => e = .returned (.tuple #[.agg D, .int .i64 0]) ∧ Later W1 w' from by
  rw [hJ]
  exact (HRA.out W1 h1).mono fun e w' ⟨k1, P, k2, _, k3⟩ => ⟨by rw [k2, k3 rfl, hD], k1⟩)
 rw [hD] at HSA
 rw [hD]
 have HJN := Lib.hid (fun V x (h : JS V x [nOk]) => show Calls Tryz.prog 61 #[x] V fun e w' => e = .returned (.string J) ∧ Later V w' by rw [hJ]; exact HJ0.out V x h)
 have HF := Lib.hid (fun w' (hl : Later w w') => show SAEnd tx w (.returned (.tuple #[.string J, .int .i64 0])) w' by rw [hJ]; exact ⟨hl, rfl⟩)
 obtain ⟨N, hN⟩ : ∃ N, w.heap.size = N := ⟨_, rfl⟩
 obtain ⟨W1, hW1⟩ : ∃ W1, w.alloc (.cells D 81) = W1 := ⟨_, rfl⟩
 have hl1 : Later w W1 := by rw [← hW1]; exact (Later.refl w).alloc _
 have hk1 : W1.heap[N]? = some (.cells D 81 (0, 0)) := by rw [← hW1, ← hN]; exact ans_block w D
 have hNlt : N < W1.heap.size := by rw [← hW1, ← hN]; simp
 have c0 : W1.cell? ⟨N, 0, none⟩ = some (.int .i64 (0)) := by rw [Lib.cell_of_heap hk1]; exact hD0
 have c1 : W1.cell? ⟨N, 1, none⟩ = some (strV ([])) := by rw [Lib.cell_of_heap hk1]; exact hD1
 have HR := Lib.hid (row_range hk1)
 have HB := Lib.hid (And.intro hl1 (And.intro hk1 hNlt))
 have HNO := Lib.hid (fun W1 => show Calls Tryz.prog 88 #[.agg D] W1 fun e w' => e = .returned (.bool true) ∧ Later W1 w' by rw [← hD]; exact nothing_yes W1)
 clear c1
 have HW1 := Lib.hid (And.intro hW1 hN)
 clear HRA HJ0 hcase hlen hw hl1 hk1 hNlt hDs hDl hDz hDo hD0 hD1 hD htx hJ hW1 hN
 go_enter Tryz.func57, Tryz.ntmps57
 go_upto_region 1 with fail
 rw [HW1.out.2, HW1.out.1]
 clear HW1
 go_wp2_with (refine wpList_load_mid rfl 81 (.tmp 1) rfl N 0 rfl D.toList _ HR.out Tryz.underlying81 rfl HDD.out.2.2.1 ?_; rw [Array.toArray_toList])
 refine (HNO.out W1).mono ?_
 rintro e WT ⟨rfl, hlT⟩
 have HLT := Lib.hid (show Later W1 WT from hlT)
 have hjs : JS (WT.alloc (.cells #[.string ⟨#[111, 107]⟩] 9)) (.slice (some ⟨WT.heap.size, 0, none⟩) 1 1) [nOk] := by
  refine ⟨WT.heap.size, 1, rfl, by simp, by simp, fun j hj => ?_⟩
  rw [World.cell?_alloc_new]
  obtain rfl : j = 0 := by simpa using hj
  rfl
 have HJC := Lib.hid (HJN.out _ _ hjs)
 have hne : ∀ W : World, (binOp .neq 24 (.int .i64 0) (.int .i64 0)).run Tryz.prog W = .ok (.bool false) W := fun W => by rfl
 clear hlT hjs HJN
 go_wp2_with fail
 refine HJC.out.mono ?_
 rintro e w4 ⟨rfl, hl4⟩
 have HL4 := Lib.hid ((HLT.out.alloc _).trans hl4)
 clear hl4 HJC HLT
 go_wp2_with fail
 refine (HRA2.out w4 (HLW.out.later (HB.out.1.trans HL4.out))).mono ?_
 rintro e w5 ⟨rfl, hl5⟩
 have HL5 := Lib.hid (HL4.out.trans hl5)
 clear hl5 HL4
 go_upto_region 21 with (refine wpList_store_rowTo rfl 81 (.tmp 10) (.tmp 77) rfl rfl w5.heap.size D rfl rfl 81 (ansA 0 [] nilS) (ans_block w5 (ansA 0 [] nilS)) HDD.out.1 HDD.out.2.2.2 HDD.out.2.1 ?_)
 have hz : (w5.alloc (.cells (ansA 0 [] nilS) 81)).setRow w5.heap.size D = w5.alloc (.cells D 81) := World.setRow_alloc_new _ _ _ _
 obtain ⟨M, hM⟩ : ∃ M, w5.heap.size = M := ⟨_, rfl⟩
 obtain ⟨W6, hW6⟩ : ∃ W6, w5.alloc (.cells D 81) = W6 := ⟨_, rfl⟩
 have hl6 : Later W1 W6 := by rw [← hW6]; exact HL5.out.alloc _
 have hk6 : W6.heap[M]? = some (.cells D 81 (0, 0)) := by rw [← hW6, ← hM]; exact ans_block w5 D
 have hz2 : (w5.alloc (.cells #[.int .i64 0, .string ⟨#[]⟩, .slice none 0 0, .int .i64 0, .int .u32 0, .int .u8 0, .int .u64 0, .int .u64 0, .int .u64 0, .int .u64 0, .int .u64 0, .int .u64 0, .int .u64 0, .int .u64 0, .int .u64 0, .int .u64 0, .complex .f64 0 0] 81)).setRow w5.heap.size D = W6 := by rw [← hW6]; exact hz
 rw [hz2, hM]
 have HRM := Lib.hid (row_range hk6)
 have HRN := Lib.hid (row_range ((hl6.block N HB.out.2.2).trans HB.out.2.1))
 have HL6 := Lib.hid hl6
 clear hz hz2 hM hW6 hl6 hk6
 go_wp2_with (first | (refine wpList_step (fun K1 hK1 => ?_); rw [if_pos (by rfl)]; refine wp_load_mid 81 (.tmp 10) rfl M 0 rfl D.toList _ HRM.out Tryz.underlying81 rfl HDD.out.2.2.1 ?_; rw [Array.toArray_toList]; refine hK1 _ _ ?_) | (refine wpList_step (fun K1 hK1 => ?_); rw [if_pos (by rfl)]; refine wp_load_mid 81 (.tmp 1) rfl N 0 rfl D.toList _ HRN.out Tryz.underlying81 rfl HDD.out.2.2.1 ?_; rw [Array.toArray_toList]; refine hK1 _ _ ?_))
 refine (HSA.out W6).mono ?_
 rintro e w7 ⟨rfl, hl7⟩
 have HFF := Lib.hid (HF.out w7 (HB.out.1.trans (HL6.out.trans hl7)))
 clear hl7
 go_wp2_with fail
 go_ret2
 exact HFF.out

end Go.Proofs.YtkbedajbbakihaaGreatDoor
