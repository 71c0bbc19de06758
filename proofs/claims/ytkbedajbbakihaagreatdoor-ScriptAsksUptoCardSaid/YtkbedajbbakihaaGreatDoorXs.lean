/-
 Texts of this proof, put together (Ta): each part's first words say what it holds. Conditions: as each part says.
-/
import Derived.Test.YtkbedajbbakihaaGreatDoorYo
import Derived.Test.YtkbedajbbakihaaGreatDoorYb
import Derived.Test.YtkbedajbbakihaaGreatDoorXi
import Derived.Test.YtkbedajbbakihaaGreatDoorYd
import Derived.Test.YtkbedajbbakihaaGreatDoorXp
/-
 ScriptAsks, walked. Conditions: the listed variables read as laid.
-/
namespace Go.Proofs.YtkbedajbbakihaaGreatDoor
open Go.RowKit Go.WideShapes
set_option linter.unusedSimpArgs false
set_option linter.unusedVariables false

set_option maxRecDepth 100000 in
theorem open_req {H : Type} {enc : TypeId × Value → H} {W : World} {base : Nat} {sp : Nat → Bool} {held : Bool} {r : Reach} {b0 : Nat} {v : Value} {d : DataW H} {ps : List MemPlace} (hval : Value.okWide Tryz.prog W r b0 39 v) (h : DataW.Trod enc Tryz.prog W base sp held 39 v d ps) :
  ∃ r : Req, v = reqV r ∧ r.wf ∧ r.key.length + r.val.length + r.old.length ≤ Rows.uptoBulk d := by
 obtain ⟨cs, rfl, hsz⟩ := okWide_struct Tryz.underlying39 hval
 obtain ⟨fuel, hf⟩ := h
 obtain ⟨r, h1, h2, h3⟩ := trod_req hf
 have h4 : cs = reqA r := Array.toList_inj.1 h1
 exact ⟨r, by rw [h4]; rfl, h2, h3⟩
theorem fit_of_wf {N : Nat} (hN : N ≤ 5000000) {r : Req} (h : r.wf) (hl : r.key.length + r.val.length + r.old.length ≤ N) : r.fit := by
 have w64 : ∀ {x : Int}, (Lit.int .i64 x).wf = true → -9223372036854775808 ≤ x ∧ x ≤ 9223372036854775807 := fun {x} h => by
  simp [Lit.wf, IntKind.min, IntKind.max, IntKind.signed, IntKind.bits] at h
  exact h
 have w32 : ∀ {x : Int}, (Lit.int .u32 x).wf = true → 0 ≤ x ∧ x ≤ 4294967295 := fun {x} h => by
  simp [Lit.wf, IntKind.min, IntKind.max, IntKind.signed, IntKind.bits] at h
  exact h
 have w8 : ∀ {x : Int}, (Lit.int .u8 x).wf = true → 0 ≤ x ∧ x ≤ 255 := fun {x} h => by
  simp [Lit.wf, IntKind.min, IntKind.max, IntKind.signed, IntKind.bits] at h
  exact h
 have wu : ∀ {x : Int}, (Lit.int .u64 x).wf = true → 0 ≤ x ∧ x ≤ 18446744073709551615 := fun {x} h => by
  simp [Lit.wf, IntKind.min, IntKind.max, IntKind.signed, IntKind.bits] at h
  exact h
 exact ⟨⟨w32 h.hg, wu h.qk, wu h.qb, w64 h.lim⟩, w8 h.hr, w8 h.rts, w64 h.ten, w64 h.ht, w64 h.deed, Nat.le_trans hl hN⟩
def sT (r : Option (List UInt8)) : ByteArray := match r with
 | none => ⟨#[]⟩
 | some t => ⟨t.toArray⟩
def sC (r : Option (List UInt8)) : Int := match r with
 | none => 4
 | some _ => 0
theorem SREnd.flat {r : Option (List UInt8)} {e : Ending} (h : SREnd r e) : e = .returned (.tuple #[.string (sT r), .int .i64 (sC r)]) := by cases r <;> exact h
theorem RREnd.flat {r : Option Req} {e : Ending} (h : RREnd r e) : e = .returned (.tuple #[.agg (reqA (r.getD req0)), .int .i64 (if r.isSome then 0 else 7)]) := by cases r <;> exact h
theorem req0_wf : req0.wf := ⟨by decide, by decide, by decide, by decide, by decide, by decide, by decide, by decide, by decide, by decide, by decide, by decide⟩
theorem read_wf (l : List UInt8) (h : l.length ≤ 5000000) : ((readR (spl l)).getD req0).wf := by
 cases hr : readR (spl l) with
 | none => exact req0_wf
 | some r => exact ((read_fit hr).fit (by have := spl_bounds l; omega)).wf
theorem eql_req (r : Req) (hr : r.wf) (w : World) : (binOp .eql 39 (reqV r) (reqV r)).run Tryz.prog w = .ok (.bool true) w := by
 obtain ⟨b, h1, h2⟩ := run_equalIn_deep (P := Tryz.prog) 9996 4 39 key39 w 5 5 (reqV r) (reqV r) (litsR r) (litsR r) (by kernel_rfl) (by kernel_rfl) (lits_req r hr) (lits_req r hr)
 have hb := h2.2 rfl
 subst hb
 unfold reqV at h1 ⊢
 rw [run_eql_struct, h1]
 rfl
set_option maxRecDepth 100000 in
set_option maxHeartbeats 4000000 in
theorem ScriptAsks_is (r : Req) (hr : r.fit) (hwf : r.wf) (s : ByteArray) (hs : s.size ≤ 1048576) (w : World) (hw : Laid w) : Calls Tryz.prog 5 #[reqV r, .string s] w fun e w' => e = .returned (.bool true) ∧ Later w w' := by
 have hl : s.data.toList.length = s.size := (Lib.size_eq s).symm
 have hsr := fun W (hL : Laid W) => (ShowRequest_is r hr W hL).mono fun e w' h => And.intro h.1.flat h.2
 have hsq := fun W => (refShow_is r hr hwf W).mono fun e w' h => And.intro h.1.flat h.2
 have hrr := fun W (hL : Laid W) => (ReadRequest_is s.data.toList (by omega) W hL).mono fun e w' h => And.intro h.1.flat h.2
 have hrq := fun W => (refReadRequest_is s (by omega) W).mono fun e w' h => And.intro h.1.flat h.2
 have hss : (⟨s.data.toList.toArray⟩ : ByteArray) = s := by apply ByteArray.ext; simp
 rw [hss] at hrr
 have heq := fun W => eql_req _ (read_wf s.data.toList (by omega)) W
 obtain ⟨T, hT⟩ : ∃ T, sT (showP r) = T := ⟨_, rfl⟩
 obtain ⟨c, hc⟩ : ∃ c, sC (showP r) = c := ⟨_, rfl⟩
 rw [hT, hc] at hsr hsq
 obtain ⟨Q, hQ⟩ : ∃ Q, (readR (spl s.data.toList)).getD req0 = Q := ⟨_, rfl⟩
 obtain ⟨x, hx⟩ : ∃ x : Int, (if (readR (spl s.data.toList)).isSome then 0 else 7) = x := ⟨_, rfl⟩
 rw [hQ, hx] at hrr hrq
 rw [hQ] at heq
 have HI := Lib.hid (show (Tryz.prog.info? 39).map (·.size) = some (reqA Q).size ∧ (reqA req0).size = (reqA Q).size ∧ (reqA Q).all (·.oneCell') = true from ⟨reqA_info, rfl, reqA_one _⟩)
 obtain ⟨K, hK⟩ : ∃ K : ByteArray, ⟨Q.key.toArray⟩ = K := ⟨_, rfl⟩
 obtain ⟨Vb, hVb⟩ : ∃ K : ByteArray, ⟨Q.val.toArray⟩ = K := ⟨_, rfl⟩
 obtain ⟨O, hO⟩ : ∃ K : ByteArray, ⟨Q.old.toArray⟩ = K := ⟨_, rfl⟩
 have hA : reqA Q = #[.int .i64 Q.deed, .int .i64 Q.ht, .int .u32 Q.hg, .int .u8 Q.hr, .string K, .string Vb, .string O, .int .i64 Q.lim, .int .i64 Q.ten, .int .u64 Q.qk, .int .u64 Q.qb, .int .u8 Q.rts] := by rw [← hK, ← hVb, ← hO]; rfl
 unfold reqV at heq
 rw [hA] at heq
 obtain ⟨D, hD⟩ : ∃ D, reqA Q = D := ⟨_, rfl⟩
 rw [hD] at HI hrr hrq
 have HC := Lib.hid (show ∀ (U : World) (b : Nat), U.heap[b]? = some (.cells D 39 (0, 0)) → U.cell? ⟨b, 0, none⟩ = some (.int .i64 Q.deed) ∧ U.cell? ⟨b, 1, none⟩ = some (.int .i64 Q.ht) ∧ U.cell? ⟨b, 2, none⟩ = some (.int .u32 Q.hg) ∧ U.cell? ⟨b, 3, none⟩ = some (.int .u8 Q.hr) ∧ U.cell? ⟨b, 4, none⟩ = some (.string K) ∧ U.cell? ⟨b, 5, none⟩ = some (.string Vb) ∧ U.cell? ⟨b, 6, none⟩ = some (.string O) ∧ U.cell? ⟨b, 7, none⟩ = some (.int .i64 Q.lim) ∧ U.cell? ⟨b, 8, none⟩ = some (.int .i64 Q.ten) ∧ U.cell? ⟨b, 9, none⟩ = some (.int .u64 Q.qk) ∧ U.cell? ⟨b, 10, none⟩ = some (.int .u64 Q.qb) ∧ U.cell? ⟨b, 11, none⟩ = some (.int .u8 Q.rts) from fun U b h => by
  refine ⟨?_, ?_, ?_, ?_, ?_, ?_, ?_, ?_, ?_, ?_, ?_, ?_⟩ <;> (rw [Lib.cell_of_heap h, ← hD, hA]; rfl))
 obtain ⟨R, hR⟩ : ∃ R, reqA r = R := ⟨_, rfl⟩
 have HRI := Lib.hid (show (Tryz.prog.info? 39).map (·.size) = some R.toList.length by rw [← hR, Array.length_toList]; exact reqA_info)
 unfold reqV at hsr hsq ⊢
 rw [hR] at hsr hsq ⊢
 have HSR := Lib.hid hsr
 have HSQ := Lib.hid hsq
 have HRR := Lib.hid hrr
 have HRQ := Lib.hid hrq
 have HEQ := Lib.hid heq
 have HW := Lib.hid hw
 obtain ⟨V0, hV0⟩ : ∃ V, w.alloc (.cells R 39) = V := ⟨_, rfl⟩
 have hl0 : Later w V0 := by rw [← hV0]; exact (Later.refl w).alloc _
 have hk0 : V0.heap[w.heap.size]? = some (.cells R 39 (0, 0)) := by rw [← hV0]; exact (MapKept.heap_alloc w _).1
 have HV0 := Lib.hid (And.intro hl0 hk0)
 have HVE := Lib.hid hV0
 have rng : ∀ (U : World), U.heap[w.heap.size]? = some (.cells R 39 (0, 0)) → U.rangeAt w.heap.size 0 R.toList := by
  intro U h j u hj
  rw [Nat.zero_add, Lib.cell_of_heap h, ← Array.getElem?_toList]
  exact hj
 have HRG := Lib.hid rng
 clear hl hsr hsq hrr hrq hss heq hT hc hQ hx hK hVb hO hA hD hR hw hV0 hl0 hk0 rng hr hwf hs
 go_enter Tryz.func5, Tryz.ntmps5
 go_upto_region 1 with fail
 rw [HVE.out]
 have HG0 := Lib.hid (HRG.out V0 HV0.out.2)
 go_wp2_with (refine wpList_load_mid rfl 39 (.tmp 2) rfl w.heap.size 0 rfl R.toList _ HG0.out Tryz.underlying39 rfl HRI.out ?_; rw [Array.toArray_toList])
 refine (HSR.out V0 (HW.out.later HV0.out.1)).mono ?_
 rintro y1 w1 ⟨rfl, hl1⟩
 have hk1 := (hl1.block _ (Array.getElem?_eq_some_iff.1 HV0.out.2).1).trans HV0.out.2
 have HL1 := Lib.hid (HV0.out.1.trans hl1)
 have HG1 := Lib.hid (HRG.out w1 hk1)
 clear hl1 hk1
 go_wp2_with (refine wpList_load_mid rfl 39 (.tmp 2) rfl w.heap.size 0 rfl R.toList _ HG1.out Tryz.underlying39 rfl HRI.out ?_; rw [Array.toArray_toList])
 refine (HSQ.out w1).mono ?_
 rintro y2 w2 ⟨rfl, hl2⟩
 have HL2 := Lib.hid (HL1.out.trans hl2)
 clear hl2
 go_wp2_with fail
 refine (HRR.out w2 (HW.out.later HL2.out)).mono ?_
 rintro y3 w3 ⟨rfl, hl3⟩
 have HL3 := Lib.hid (HL2.out.trans hl3)
 clear hl3
 go_upto_region 4 with (refine wpList_store_rowTo rfl 39 (.tmp 9) (.tmp 26) rfl rfl w3.heap.size D rfl rfl 39 (reqA req0) (req_block w3 (reqA req0)) HI.out.1 HI.out.2.1 HI.out.2.2 ?_)
 have hz3 : (w3.alloc (.cells #[.int .i64 0, .int .i64 0, .int .u32 0, .int .u8 0, .string ⟨#[]⟩, .string ⟨#[]⟩, .string ⟨#[]⟩, .int .i64 0, .int .i64 0, .int .u64 0, .int .u64 0, .int .u8 0] 39)).setRow w3.heap.size D = w3.alloc (.cells D 39) := World.setRow_alloc_new _ _ _ _
 rw [hz3]
 obtain ⟨B3, hB3⟩ : ∃ B, w3.heap.size = B := ⟨_, rfl⟩
 obtain ⟨V3, hV3⟩ : ∃ V, w3.alloc (.cells D 39) = V := ⟨_, rfl⟩
 have hlV : Later w V3 := by rw [← hV3]; exact HL3.out.alloc _
 have hkV : V3.heap[B3]? = some (.cells D 39 (0, 0)) := by rw [← hV3, ← hB3]; exact req_block w3 D
 have HV3 := Lib.hid (And.intro hlV hkV)
 rw [hB3, hV3]
 clear hz3 hB3 hV3 hlV hkV
 go_wp2_with fail
 refine (HRQ.out V3).mono ?_
 rintro y4 w4 ⟨rfl, hl4⟩
 have HL4 := Lib.hid hl4
 clear hl4
 go_upto_region 5 with (refine wpList_store_rowTo rfl 39 (.tmp 11) (.tmp 31) rfl rfl w4.heap.size D rfl rfl 39 (reqA req0) (req_block w4 (reqA req0)) HI.out.1 HI.out.2.1 HI.out.2.2 ?_)
 have hz4 : (w4.alloc (.cells #[.int .i64 0, .int .i64 0, .int .u32 0, .int .u8 0, .string ⟨#[]⟩, .string ⟨#[]⟩, .string ⟨#[]⟩, .int .i64 0, .int .i64 0, .int .u64 0, .int .u64 0, .int .u8 0] 39)).setRow w4.heap.size D = w4.alloc (.cells D 39) := World.setRow_alloc_new _ _ _ _
 rw [hz4]
 obtain ⟨B4, hB4⟩ : ∃ B, w4.heap.size = B := ⟨_, rfl⟩
 obtain ⟨V4, hV4⟩ : ∃ V, w4.alloc (.cells D 39) = V := ⟨_, rfl⟩
 have hlV : Later V3 V4 := by rw [← hV4]; exact HL4.out.alloc _
 have hkV : V4.heap[B4]? = some (.cells D 39 (0, 0)) := by rw [← hV4, ← hB4]; exact req_block w4 D
 have hk3 := (hlV.block _ (Array.getElem?_eq_some_iff.1 HV3.out.2).1).trans HV3.out.2
 have HV4 := Lib.hid (HV3.out.1.trans hlV)
 rw [hB4, hV4]
 obtain ⟨e0, e1, e2, e3, e4, e5, e6, e7, e8, e9, e10, e11⟩ := HC.out V4 B3 hk3
 obtain ⟨g0, g1, g2, g3, g4, g5, g6, g7, g8, g9, g10, g11⟩ := HC.out V4 B4 hkV
 have heq := HEQ.out V4
 clear hz4 hB4 hV4 hlV hkV hk3
 go_wp2_with fail
 refine (awake_is _ (HW.out.later HV4.out)).mono ?_
 rintro y5 w5 ⟨rfl, hl5⟩
 have HL5 := Lib.hid (HV4.out.trans hl5)
 clear hl5 e0 e1 e2 e3 e4 e5 e6 e7 e8 e9 e10 e11 g0 g1 g2 g3 g4 g5 g6 g7 g8 g9 g10 g11 heq
 go_wp2_with fail
 go_ret
 exact ⟨rfl, HL5.out⟩
end Go.Proofs.YtkbedajbbakihaaGreatDoor
