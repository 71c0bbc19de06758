/-
 Texts of this proof, put together (Tr): each part's first words say what it holds. Conditions: as each part says.
-/
import Derived.Test.YtkbedajbbakihaaGreatDoorYl
import Derived.Test.YtkbedajbbakihaaGreatDoorYm
import Derived.Test.YtkbedajbbakihaaGreatDoorYn
/-
 The reference's ReadRequest; ScriptAsks walked. Conditions: the listed variables read as laid; the texts are not too long.
-/
namespace Go.Proofs.YtkbedajbbakihaaGreatDoor
open Go.RowKit Go.Sort Go.Lib
set_option linter.unusedSimpArgs false
set_option linter.unusedVariables false

theorem refReq_is (v : Value) (ws : List (List UInt8)) (hne : ws ≠ []) (w : World) (h : SL w v ws) (hsm : sumL ws ≤ 100000000) (hlb : ws.length ≤ 1000000000) : Calls Tryz.prog 40 #[v] w (RQE ws w) := by
 cases ws with
 | nil => exact absurd rfl hne
 | cons w0 rest =>
  have key : ∃ dd : Nat, (1 ≤ dd ∧ dd ≤ 11) ∧ ∀ k : Nat, 1 ≤ k → k ≤ 10 → (nameN k = w0 ↔ k = dd) := by
   cases hd : deedW w0 with
   | some d =>
    obtain ⟨h1, h2⟩ := deedW_of hd
    refine ⟨d, by omega, fun k k1 k2 => ⟨fun hk => ?_, fun hk => by rw [hk, h2]⟩⟩
    have h3 := deedW_name k ⟨k1, k2⟩
    rw [hk, hd] at h3
    injection h3 with h3
    exact h3.symm
   | none =>
    refine ⟨11, by omega, fun k k1 k2 => ⟨fun hk => ?_, fun hk => by omega⟩⟩
    have h3 := deedW_name k ⟨k1, k2⟩
    rw [hk, hd] at h3
    cases h3
  obtain ⟨dd, hdd, hnm⟩ := key
  have h3 : dd ≤ 3 ∨ (4 ≤ dd ∧ dd ≤ 6) ∨ 7 ≤ dd := by omega
  rcases h3 with h3 | h3 | h3
  ·exact refReq_a v w0 rest w h hsm hlb dd ⟨hdd.1, h3⟩ hnm
  ·exact refReq_b v w0 rest w h hsm hlb dd h3 hnm
  ·exact refReq_c v w0 rest w h hsm hlb dd ⟨h3, hdd.2⟩ hnm
theorem spl_bounds (l : List UInt8) : spl l ≠ [] ∧ sumL (spl l) ≤ l.length ∧ (spl l).length ≤ l.length + 1 := by
 obtain ⟨a, t, e⟩ := spl_ex l
 refine ⟨by rw [e]; simp, by have := spl_sum l; omega, ?_⟩
 rw [spl_len]
 have := List.count_le_length (a := (32 : UInt8)) (l := l)
 omega
set_option maxRecDepth 100000 in
set_option maxHeartbeats 4000000 in
theorem refReadRequest_is (s : ByteArray) (hs : s.size ≤ 90000000) (w : World) : Calls Tryz.prog 16 #[.string s] w fun e w' => RREnd (readR (spl s.data.toList)) e ∧ Later w w' := by
 obtain ⟨ws, hws⟩ : ∃ ws, spl s.data.toList = ws := ⟨_, rfl⟩
 obtain ⟨h1, h2, h3⟩ := spl_bounds s.data.toList
 have h4 : s.data.toList.length = s.size := (Lib.size_eq s).symm
 have hsp := fun W => refSplit_is s (by omega) W
 rw [hws] at h1 h2 h3 hsp ⊢
 have HSP := Lib.hid hsp
 have HRQ := Lib.hid (fun v W (h : SL W v ws) => refReq_is v ws h1 W h (by omega) (by omega))
 obtain ⟨n, hn⟩ : ∃ n, ws.length = n := ⟨_, rfl⟩
 rw [hn] at HSP
 obtain ⟨res, hres⟩ : ∃ res, readR ws = res := ⟨_, rfl⟩
 rw [hres]
 have HRES := Lib.hid hres
 clear hres
 have HN := Lib.hid hn
 have hk0 : (w.alloc (.cells (reqA req0) 39)).heap[w.heap.size]? = some (.cells (reqA req0) 39 (0, 0)) := (MapKept.heap_alloc w _).1
 have HK0 := Lib.hid hk0
 have HZ := Lib.hid (fun W : World => show (W.alloc (.cells (reqA req0) 39)).heap[W.heap.size]? = some (.cells (reqA req0) 39 (0, 0)) from (MapKept.heap_alloc W _).1)
 clear h1 h2 h3 h4 hsp hws hn hk0 hs
 go_enter Tryz.func16, Tryz.ntmps16
 go_wp2_with fail
 refine (HSP.out _).mono ?_
 rintro y1 w1 ⟨hl1, a, c, rfl, ho1⟩
 have HL1 := Lib.hid hl1
 have HSL := Lib.hid (show SL w1 (.slice a n c) ws from SL.of_owns (base := (w.alloc (.cells (reqA req0) 39)).heap.size) (by rw [HN.out]; exact ho1))
 clear hl1 ho1
 go_wp2_with fail
 refine (HRQ.out _ w1 HSL.out).mono ?_
 rintro y2 w2 ⟨hl2, hres⟩
 have hk2 := ((HL1.out.trans hl2).block _ (Array.getElem?_eq_some_iff.1 HK0.out).1).trans HK0.out
 have HK2 := Lib.hid hk2
 have HL2 := Lib.hid ((((Later.refl w).alloc _).trans HL1.out).trans hl2)
 have done : ∀ (r : Req) (x : Int) (U : World), Later w2 U → Later w (U.setRow w.heap.size (reqA r)) ∧ (U.setRow w.heap.size (reqA r)).heap[w.heap.size]? = some (.cells (reqA r) 39 (0, 0)) ∧ U.heap[w.heap.size]? = some (.cells (reqA req0) 39 (0, 0)) := by
  intro r x U hl
  have h1 := (hl.block _ (Array.getElem?_eq_some_iff.1 HK2.out).1).trans HK2.out
  exact ⟨row_later (HL2.out.trans hl) (Nat.le_refl _) _, setRow_heap U w.heap.size _ _ 39 (0, 0) h1, h1⟩
 have HD := Lib.hid done
 clear hl2 hk2 done
 rcases hres with ⟨r, hr, rfl⟩ | ⟨hr, r, rfl⟩
 ·have HI := Lib.hid (show (Tryz.prog.info? 39).map (·.size) = some (reqA r).size ∧ (Tryz.prog.info? 39).map (·.size) = some (reqA r).toList.length ∧ (reqA req0).size = (reqA r).size ∧ (reqA r).all (·.oneCell') = true from ⟨reqA_info, by rw [Array.length_toList]; exact reqA_info, rfl, reqA_one _⟩)
  obtain ⟨A, hA⟩ : ∃ A, reqA r = A := ⟨_, rfl⟩
  unfold reqV
  rw [hA] at HI
  have hh := fun U h => HD.out r 0 U h
  obtain ⟨U, hU⟩ : ∃ U, w2.alloc (.cells A 39) = U := ⟨_, rfl⟩
  have hlU : Later w2 U := by rw [← hU]; exact (Later.refl w2).alloc _
  have hkU : U.heap[w2.heap.size]? = some (.cells A 39 (0, 0)) := by rw [← hU]; exact (MapKept.heap_alloc w2 _).1
  obtain ⟨g1, g2, g3⟩ := hh U hlU
  obtain ⟨a0, a1, a2, a3, a4, a5, a6, a7, a8, a9, a10, a11⟩ := req_cells g2
  rw [hA] at g1 a0 a1 a2 a3 a4 a5 a6 a7 a8 a9 a10 a11 ⊢
  have hrg : U.rangeAt w2.heap.size 0 A.toList := by
   intro j u hj
   rw [Nat.zero_add, Lib.cell_of_heap hkU, ← Array.getElem?_toList]
   exact hj
  have HG := Lib.hid (And.intro g1 (And.intro g3 hrg))
  have hset : (w2.alloc (.cells (reqA req0) 39)).setRow w2.heap.size A = U := by rw [← hU]; exact World.setRow_alloc_new _ _ _ _
  have HSET := Lib.hid hset
  have HF := Lib.hid (show RREnd res (.returned (.tuple #[reqV r, .int .i64 0])) ∧ Later w (U.setRow w.heap.size A) from ⟨by rw [← HRES.out, hr]; rfl, g1⟩)
  clear hA hU hlU hkU g1 g2 g3 hrg hh hset hr
  go_upto_region 2 with (refine wpList_store_rowTo rfl 39 (.tmp 4) (.tmp 10) rfl rfl w2.heap.size A rfl rfl 39 (reqA req0) (HZ.out w2) HI.out.1 HI.out.2.2.1 HI.out.2.2.2 ?_)
  have hs2 : (w2.alloc (.cells #[.int .i64 0, .int .i64 0, .int .u32 0, .int .u8 0, .string ⟨#[]⟩, .string ⟨#[]⟩, .string ⟨#[]⟩, .int .i64 0, .int .i64 0, .int .u64 0, .int .u64 0, .int .u8 0] 39)).setRow w2.heap.size A = U := HSET.out
  rw [hs2]
  clear hs2
  go_wp2_with (first | (refine wpList_load_mid rfl 39 (.tmp 4) rfl w2.heap.size 0 rfl A.toList _ HG.out.2.2 Tryz.underlying39 rfl HI.out.2.1 ?_; rw [Array.toArray_toList]) | (refine wpList_store_rowTo rfl 39 (.tmp 2) (.tmp 15) rfl rfl w.heap.size A rfl rfl 39 (reqA req0) HG.out.2.1 HI.out.1 HI.out.2.2.1 HI.out.2.2.2 ?_))
  refine bodyPost_ret ?_ rfl HF.out
  simp [results, Tryz.results16, go_sem, a0, a1, a2, a3, a4, a5, a6, a7, a8, a9, a10, a11, reqV, reqA]
 ·have HI := Lib.hid (show (Tryz.prog.info? 39).map (·.size) = some (reqA r).size ∧ (reqA req0).size = (reqA r).size ∧ (reqA r).all (·.oneCell') = true from ⟨reqA_info, rfl, reqA_one _⟩)
  obtain ⟨A, hA⟩ : ∃ A, reqA r = A := ⟨_, rfl⟩
  unfold reqV
  rw [hA] at HI ⊢
  obtain ⟨U, hU⟩ : ∃ U, w2.alloc (.cells A 39) = U := ⟨_, rfl⟩
  have hlU : Later w2 U := by rw [← hU]; exact (Later.refl w2).alloc _
  obtain ⟨g1, g2, g3⟩ := HD.out req0 0 U hlU
  obtain ⟨a0, a1, a2, a3, a4, a5, a6, a7, a8, a9, a10, a11⟩ := req_cells g2
  have HG := Lib.hid g3
  have hset : (w2.alloc (.cells (reqA req0) 39)).setRow w2.heap.size A = U := by rw [← hU]; exact World.setRow_alloc_new _ _ _ _
  have HSET := Lib.hid hset
  have HF := Lib.hid (show RREnd res (.returned (.tuple #[reqV req0, .int .i64 7])) ∧ Later w (U.setRow w.heap.size (reqA req0)) from ⟨by rw [← HRES.out, hr]; rfl, g1⟩)
  clear hA hU hlU g1 g2 g3 hset hr
  go_upto_region 2 with (refine wpList_store_rowTo rfl 39 (.tmp 4) (.tmp 10) rfl rfl w2.heap.size A rfl rfl 39 (reqA req0) (HZ.out w2) HI.out.1 HI.out.2.1 HI.out.2.2 ?_)
  have hs2 : (w2.alloc (.cells #[.int .i64 0, .int .i64 0, .int .u32 0, .int .u8 0, .string ⟨#[]⟩, .string ⟨#[]⟩, .string ⟨#[]⟩, .int .i64 0, .int .i64 0, .int .u64 0, .int .u64 0, .int .u8 0] 39)).setRow w2.heap.size A = U := HSET.out
  rw [hs2]
  clear hs2
  go_wp2_with (refine wpList_store_rowTo rfl 39 (.tmp 2) (.tmp 14) rfl rfl w.heap.size (reqA req0) rfl rfl 39 (reqA req0) HG.out reqA_info rfl (reqA_one req0) ?_)
  generalize U.setRow w.heap.size (reqA req0) = W7 at a0 a1 a2 a3 a4 a5 a6 a7 a8 a9 a10 a11 HF ⊢
  refine bodyPost_ret ?_ rfl HF.out
  simp [results, Tryz.results16, go_sem, a0, a1, a2, a3, a4, a5, a6, a7, a8, a9, a10, a11, reqV, reqA]
end Go.Proofs.YtkbedajbbakihaaGreatDoor
