/-
 Texts of this proof, put together (Sr): each part's first words say what it holds. Conditions: as each part says.
-/
import Derived.Test.YtkbedajbbakihaaGreatDoorQg
/-
 ShowRequest, walked. Conditions: as Sk's.
-/
namespace Go.Proofs.YtkbedajbbakihaaGreatDoor
open Go.RowKit Go.Sort Go.Lib
set_option linter.unusedSimpArgs false
set_option linter.unusedVariables false

theorem Req.fit.wf {r : Req} (h : r.fit) : r.wf := by
 have a1 := h.deed
 have a2 := h.ht
 have a3 := h.hg
 have a4 := h.hr
 have a5 := h.lim
 have a6 := h.ten
 have a7 := h.qk
 have a8 := h.qb
 have a9 := h.rts
 have a10 := h.len
 refine ⟨?_, ?_, ?_, ?_, ?_, ?_, ?_, ?_, ?_, by omega, by omega, by omega⟩ <;> (simp only [Lit.wf]; go_wf)
theorem zero_wf (k : IntKind) : (Lit.int k 0).wf = true := by cases k <;> decide
theorem bare_wf {r : Req} (h : r.wf) : (bare r).wf := by
 unfold bare
 cases hd : deedN r.deed with
 | none => exact h
 | some n =>
  obtain ⟨h1, h2⟩ := deedN_of hd
  obtain ⟨b1, b2, b3, b4, b5, b6, b7, b8, b9, b10, b11, b12⟩ := h
  rcases ten_cases h2 with rfl | rfl | rfl | rfl | rfl | rfl | rfl | rfl | rfl | rfl <;> simp only [fldsN, List.foldl, setF, req0] <;> refine ⟨?_, ?_, ?_, ?_, ?_, ?_, ?_, ?_, ?_, ?_, ?_, ?_⟩ <;> first | assumption | exact zero_wf _ | (simp)
def shN (j : Nat) : Nat := [98, 100, 101, 103, 105, 106, 110, 112, 114, 115].getD j 0
def capsN (j N : Nat) : Array Value := match j with
 | 0 | 1 | 2 | 3 | 4 => #[.pointer (some ⟨N + 1, 0, none⟩), .pointer (some ⟨N, 0, none⟩)]
 | 5 => #[.pointer (some ⟨N + 1, 0, none⟩)]
 | 6 | 7 | 9 => #[.pointer (some ⟨N + 1 + 1, 0, none⟩)]
 | 8 => #[.pointer (some ⟨N + 1 + 1, 0, none⟩), .pointer (some ⟨N + 1 + 1 + 1, 0, none⟩)]
 | _ => #[]
/-- the form of deed j + 1 -/
def entA (j M N : Nat) : Array Value := #[strV (nameN (j + 1)), .slice (some ⟨M + (j + 1), 0, none⟩) (fldsN (j + 1)).length (fldsN (j + 1)).length, .func (.func (shN j)) #[] (capsN j N)]
def zA : Array Value := #[.string ⟨#[]⟩, .slice none 0 0, .nilFunc]
theorem show_any (j : Nat) (hj : j < 10) (r : Req) (hr : r.fit) (M N : Nat) (w : World) (hw : Laid w) (h : FB M N w) :
  Calls Tryz.prog (shN j) (#[reqV r] ++ capsN j N) w (ShEnd (shFs r (fldsN (j + 1))) w) := by
 have k0 : w.cell? ⟨N, 0, none⟩ = some (.func (.func 92) #[] #[]) := by rw [Lib.cell_of_heap h.key]; rfl
 have k1 : w.cell? ⟨N + 1, 0, none⟩ = some (.func (.func 93) #[] #[]) := by rw [Lib.cell_of_heap h.held]; rfl
 have k2 : w.cell? ⟨N + 1 + 1, 0, none⟩ = some (.func (.func 94) #[] #[]) := by rw [Lib.cell_of_heap h.ten]; rfl
 have k3 : w.cell? ⟨N + 1 + 1 + 1, 0, none⟩ = some (.func (.func 95) #[] #[]) := by rw [Lib.cell_of_heap h.rts]; rfl
 have hj' : j = 0 ∨ j = 1 ∨ j = 2 ∨ j = 3 ∨ j = 4 ∨ j = 5 ∨ j = 6 ∨ j = 7 ∨ j = 8 ∨ j = 9 := by omega
 rcases hj' with rfl | rfl | rfl | rfl | rfl | rfl | rfl | rfl | rfl | rfl
 ·exact show_get r hr _ _ w hw k1 k0
 ·exact show_put r hr _ _ w hw k1 k0
 ·exact show_delete r hr _ _ w hw k1 k0
 ·exact show_swap r hr _ _ w hw k1 k0
 ·exact show_scan r hr _ _ w hw k1 k0
 ·exact show_tell r hr _ w hw k1
 ·exact show_create r hr _ w hw k2
 ·exact show_remove r hr _ w hw k2
 ·exact show_issue r hr _ _ w hw k2 k3
 ·exact show_revoke r hr _ w hw k2
set_option maxRecDepth 100000 in
theorem enter_show (j : Nat) (hj : j < 10) (args : Array Value) (W : World) : (callFunc (shN j) args).run Tryz.prog W = .ok (.enter (shN j) args) W := by
 have hj' : j = 0 ∨ j = 1 ∨ j = 2 ∨ j = 3 ∨ j = 4 ∨ j = 5 ∨ j = 6 ∨ j = 7 ∨ j = 8 ∨ j = 9 := by omega
 rcases hj' with rfl | rfl | rfl | rfl | rfl | rfl | rfl | rfl | rfl | rfl <;> rfl
/-! ### the look-up in the table -/
theorem look_yes (j : Nat) (hj : j < 10) (M N : Nat) (V : World) (h : FB M N V) (d : Int) (hd : d = ((j + 1 : Nat) : Int)) :
  (Instr.lookup 118 (.map (some M)) (.int .i64 d) true).run Tryz.prog V = .ok (.tuple #[.agg (entA j M N), .bool true]) V := by
 subst hd
 have hn : Instr.findNow (.int .i64) (.int .i64 ((j + 1 : Nat) : Int)) (ents M N).toArray.toList 0 = some (some (j, .agg (entA j M N))) := by
  have hj' : j = 0 ∨ j = 1 ∨ j = 2 ∨ j = 3 ∨ j = 4 ∨ j = 5 ∨ j = 6 ∨ j = 7 ∨ j = 8 ∨ j = 9 := by omega
  rcases hj' with rfl | rfl | rfl | rfl | rfl | rfl | rfl | rfl | rfl | rfl <;> rfl
 unfold Instr.lookup
 simp only [Sem.run_bind, run_underlying Tryz.underlying118, Result.andThen, MapKept.run_getObj_map h.map, Sem.run_pure, MapKept.run_checkKey Tryz.underlying30 (show MapKept.IsKey (.int .i64) (.int .i64 ((j + 1 : Nat) : Int)) by simp [MapKept.IsKey]), MapKept.run_findKey Tryz.underlying30 hn]
 rfl
theorem look_no (M N : Nat) (V : World) (h : FB M N V) (d : Int) (hd : ¬ (1 ≤ d ∧ d ≤ 10)) :
  (Instr.lookup 118 (.map (some M)) (.int .i64 d) true).run Tryz.prog V = .ok (.tuple #[.agg zA, .bool false]) V := by
 have hn : Instr.findNow (.int .i64) (.int .i64 d) (ents M N).toArray.toList 0 = some none := by
  have n1 : (d == 1) = false := by simp; omega
  have n2 : (d == 2) = false := by simp; omega
  have n3 : (d == 3) = false := by simp; omega
  have n4 : (d == 4) = false := by simp; omega
  have n5 : (d == 5) = false := by simp; omega
  have n6 : (d == 6) = false := by simp; omega
  have n7 : (d == 7) = false := by simp; omega
  have n8 : (d == 8) = false := by simp; omega
  have n9 : (d == 9) = false := by simp; omega
  have n10 : (d == 10) = false := by simp; omega
  simp [ents, Instr.findNow, Instr.sameNow, n1, n2, n3, n4, n5, n6, n7, n8, n9, n10]
 have hz : (zeroValue 116).run Tryz.prog V = .ok (.agg zA) V := by kernel_rfl
 unfold Instr.lookup
 simp only [Sem.run_bind, run_underlying Tryz.underlying118, Result.andThen, MapKept.run_getObj_map h.map, Sem.run_pure, MapKept.run_checkKey Tryz.underlying30 (show MapKept.IsKey (.int .i64) (.int .i64 d) by simp [MapKept.IsKey]), MapKept.run_findKey Tryz.underlying30 hn, hz]
 rfl
theorem FB.later {M N : Nat} {V V2 : World} (h : FB M N V) (hl : Later V V2) (hM : N + 4 = M) (hE : M + 11 ≤ V.heap.size) : FB M N V2 := h.below hl hM hE
theorem FB.setRow {M N F : Nat} {V : World} (h : FB M N V) (hM : N + 4 = M) (hF : F < N ∨ M + 11 ≤ F) (cs : Array Value) : FB M N (V.setRow F cs) :=
 ⟨(setRow_other V F M cs (by omega)).trans h.map, fun j hj => (setRow_other V F (M + (j + 1)) cs (by omega)).trans (h.rows j hj), (setRow_other V F N cs (by omega)).trans h.key, (setRow_other V F (N + 1) cs (by omega)).trans h.held, (setRow_other V F (N + 2) cs (by omega)).trans h.ten, (setRow_other V F (N + 3) cs (by omega)).trans h.rts⟩
theorem info116 : (Tryz.prog.info? 116).map (·.size) = some 3 := by kernel_rfl
set_option maxRecDepth 100000 in
theorem enter60 (args : Array Value) (W : World) : (callFunc 60 args).run Tryz.prog W = .ok (.enter 60 args) W := rfl
set_option maxRecDepth 100000 in
theorem guard39 (x y : Operand) (Q R : Array Value) (W : World) : (eqGuard .neq 39 x y (.agg Q) (.agg R)).run Tryz.prog W = .ok () W := by kernel_rfl
theorem wp_neq39 {op : Oper} {a : Act} {w : World} {K : Act → World → Prop} {Q0 : Exit → Act → World → Prop} (x y : Operand) (t : TypeId) (ho : op.op = .binOp .neq 39 x y t) (Q R : Array Value) (hx : a.eval x = .agg Q) (hy : a.eval y = .agg R) (b : Bool)
  (hb : (binOp .neq 39 (.agg Q) (.agg R)).run Tryz.prog w = .ok (.bool b) w) (h : K (a.put op.dst (.bool b)) w) : op.wp Tryz.prog a w K Q0 := by
 unfold Oper.wp execOp
 simp only [ho, hx, hy, Sem.run_bind, guard39, Result.andThen_ok, hb, Sem.run_pure]
 exact h
/-- how ShowRequest ends -/
def SREnd (res : Option (List UInt8)) (e : Ending) : Prop :=
 match res with
 | some t => e = .returned (.tuple #[strV t, .int .i64 0])
 | none => e = .returned (.tuple #[.string ⟨#[]⟩, .int .i64 4])

open Classical in
set_option maxRecDepth 100000 in
set_option maxHeartbeats 16000000 in
theorem ShowRequest_in (r : Req) (hr : r.fit) (w : World) (hw : Laid w) (d : Int) (hd : r.deed = d) (E : Nat → Nat → Array Value) (ok : Bool) (hE3 : ∀ M N, (E M N).size = 3) (hE1 : ∀ M N, (E M N).all (·.oneCell') = true)
  (hLK : ∀ M N V, FB M N V → (Instr.lookup 118 (.map (some M)) (.int .i64 d) true).run Tryz.prog V = .ok (.tuple #[.agg (E M N), .bool ok]) V)
  (hok : (ok = false ∧ showP r = none) ∨ ∃ j, j < 10 ∧ ok = true ∧ E = entA j ∧ deedN d = some (j + 1)) :
  Calls Tryz.prog 22 #[reqV r] w fun e w' => SREnd (showP r) e ∧ Later w w' := by
 obtain ⟨R, hR⟩ : ∃ R, reqA r = R := ⟨_, rfl⟩
 unfold reqV
 rw [hR]
 obtain ⟨res, hres⟩ : ∃ res, showP r = res := ⟨_, rfl⟩
 rw [hres] at hok ⊢
 obtain ⟨W, hW⟩ : ∃ W, (w.alloc (.cells R 39)).alloc (.cells #[.string ⟨#[]⟩] 9) = W := ⟨_, rfl⟩
 obtain ⟨B, hB⟩ : ∃ B, w.heap.size = B := ⟨_, rfl⟩
 obtain ⟨SB, hSB⟩ : ∃ SB, B + 1 = SB := ⟨_, rfl⟩
 have hlW : Later w W := by rw [← hW]; exact ((Later.refl w).alloc _).alloc _
 have hbk : W.heap[B]? = some (.cells R 39 (0, 0)) := by
  rw [← hW, ← hB, heap_alloc_lt _ _ _ (by simp)]
  exact (MapKept.heap_alloc w _).1
 have hsb : W.heap[SB]? = some (.cells #[.string ⟨#[]⟩] 9 (0, 0)) := by
  have := (MapKept.heap_alloc (w.alloc (.cells R 39)) (.cells #[.string ⟨#[]⟩] 9)).1
  rw [← hW, ← hSB, ← hB]
  simpa using this
 have hsz : W.heap.size = SB + 1 := by rw [← hW, ← hSB, ← hB]; simp
 have HWW := Lib.hid (And.intro hW (And.intro hB (And.intro hSB hsz)))
 have HR := Lib.hid (And.intro hlW (And.intro hbk (And.intro hsb hR)))
 have HBc := Lib.hid (fun (V : World) (hV : Later W V) (o : Nat) u (hu : R[o]? = some u) => cell_at hV (p := ⟨B, o, none⟩) (by rw [Lib.cell_of_heap hbk]; exact hu) (by show B < W.heap.size; omega))
 have HLW := Lib.hid (hw.later hlW)
 have HE3 := Lib.hid hE3
 have HE1 := Lib.hid hE1
 have HLK := Lib.hid hLK
 have HOK := Lib.hid hok
 have HRES := Lib.hid hres
 have hd0 : R[0]? = some (.int .i64 d) := by rw [← hR, ← hd]; rfl
 have HD0 := Lib.hid hd0
 have HDD := Lib.hid hd
 clear hW hB hSB hlW hbk hsb hsz hE3 hE1 hLK hok hR hd hd0 hres
 go_enter Tryz.func22, Tryz.ntmps22
 go_upto_region 2 with fail
 rw [HWW.out.1, HWW.out.2.1]
 rw [show B + 1 = SB from HWW.out.2.2.1]
 refine wp_region_inv mixedZ (fun D a V => ∃ (M N F : Nat) (x5 x6 x9 x10 x11 x12 x13 x14 x15 : Value), a = ⟨#[.agg R, .pointer (some ⟨B, 0, none⟩), .string ⟨#[]⟩, .int .i64 0, .pointer (some ⟨SB, 0, none⟩), x5, x6, undef, undef, x9, x10, x11, x12, x13, x14, x15, undef, undef, undef, undef, undef, undef, undef, undef, undef, undef, undef, undef, undef, undef, undef, undef, undef, undef, undef, undef], []⟩ ∧ Later W V ∧ (D 0 = true → D 7 = true → F < N ∨ M + 11 ≤ F) ∧ (D 0 = true → x10 = .map (some M) ∧ N + 4 = M ∧ W.heap.size ≤ N ∧ M + 11 ≤ V.heap.size ∧ FB M N V) ∧ (D 1 = true → x11 = .pointer (some ⟨B, 0, none⟩)) ∧ (D 2 = true → x12 = .int .i64 d) ∧ (D 3 = true → D 0 = true ∧ x13 = .tuple #[.agg (E M N), .bool ok]) ∧ (D 4 = true → D 0 = true ∧ x9 = .tuple #[.agg (E M N), .bool ok]) ∧ (D 5 = true → D 0 = true ∧ x14 = .agg (E M N)) ∧ (D 6 = true → x15 = .bool ok) ∧ (D 7 = true → x5 = .pointer (some ⟨F, 0, none⟩) ∧ W.heap.size ≤ F ∧ F < V.heap.size ∧ (D 8 = false → V.heap[F]? = some (.cells zA 116 (0, 0))) ∧ (D 8 = true → V.heap[F]? = some (.cells (E M N) 116 (0, 0)))) ∧ (D 8 = true → D 0 = true ∧ D 7 = true) ∧ (D 9 = true → x6 = .bool ok)) (by kernel_rfl) ?h0 ?hstep ?hend
 case h0 => exact ⟨0, 0, 0, _, _, _, _, _, _, _, _, _, rfl, (Later.refl W).drew, (fun h => by cases h), (fun h => by cases h), (fun h => by cases h), (fun h => by cases h), (fun h => by cases h), (fun h => by cases h), (fun h => by cases h), (fun h => by cases h), (fun h => by cases h), (fun h => by cases h), (fun h => by cases h)⟩
 case hend =>
  intro D a V hD hI
  obtain ⟨M, N, F, x5, x6, x9, x10, x11, x12, x13, x14, x15, rfl, hl, hFN, f0, -, -, -, -, -, -, f7, -, f9⟩ := hI
  obtain ⟨-, hNM, hWN, hMV, hFB⟩ := f0 (hD 0 (by decide))
  obtain ⟨rfl, hWF, hFV, -, hFE⟩ := f7 (hD 7 (by decide))
  have hFE := hFE (hD 8 (by decide))
  have hFN := hFN (hD 0 (by decide)) (hD 7 (by decide))
  obtain rfl := f9 (hD 9 (by decide))
  clear f0 f7 f9 hD
  have HV := Lib.hid (And.intro hl (And.intro hNM (And.intro hWN (And.intro hMV (And.intro hFB (And.intro hWF (And.intro hFV (And.intro hFE hFN))))))))
  clear hl hNM hWN hMV hFB hWF hFV hFE hFN
  rcases HOK.out with ⟨rfl, rfl⟩ | ⟨j, hj, rfl, rfl, hdn⟩
  ·have HF := Lib.hid (HR.out.1.trans HV.out.1)
   go_wp2_with fail
   go_ret2
   exact ⟨rfl, HF.out⟩
  ·obtain ⟨fl, hfl⟩ : ∃ fl, fldsN (j + 1) = fl := ⟨_, rfl⟩
   obtain ⟨nm, hnm⟩ : ∃ nm, nameN (j + 1) = nm := ⟨_, rfl⟩
   have hline : lineP r = (shFs r fl).map (nm :: ·) := by
    unfold lineP
    rw [HDD.out, hdn, Option.bind_some, hfl, hnm]
   have hflen : 0 < fl.length ∧ fl.length ≤ 4 := by
    rw [← hfl]
    refine ⟨?_, flds_len j⟩
    have hj' : j = 0 ∨ j = 1 ∨ j = 2 ∨ j = 3 ∨ j = 4 ∨ j = 5 ∨ j = 6 ∨ j = 7 ∨ j = 8 ∨ j = 9 := by omega
    rcases hj' with rfl | rfl | rfl | rfl | rfl | rfl | rfl | rfl | rfl | rfl <;> decide
   have hnlen : nm.length ≤ 10 := by
    rw [← hnm]
    have hj' : j = 0 ∨ j = 1 ∨ j = 2 ∨ j = 3 ∨ j = 4 ∨ j = 5 ∨ j = 6 ∨ j = 7 ∨ j = 8 ∨ j = 9 := by omega
    rcases hj' with rfl | rfl | rfl | rfl | rfl | rfl | rfl | rfl | rfl | rfl <;> decide
   obtain ⟨K, hK⟩ : ∃ K, V.heap.size = K := ⟨_, rfl⟩
   obtain ⟨V1, hV1⟩ : ∃ V1, V.alloc (.cells #[.bool false] 4) = V1 := ⟨_, rfl⟩
   have hl1 : Later V V1 := by rw [← hV1]; exact (Later.refl V).alloc _
   have hK1 : V1.heap[K]? = some (.cells #[.bool false] 4 (0, 0)) := by rw [← hV1, ← hK]; exact (MapKept.heap_alloc V _).1
   have hK2 : K < V1.heap.size := by rw [← hV1, ← hK]; simp
   have hSK : SB < K := by have := HWW.out.2.2.2; have := HV.out.1.size; omega
   have hlV : Later w V := HR.out.1.trans HV.out.1
   have hline1 := line_is r hr fl hflen nm hnlen (shN j) (capsN j N) (.slice (some ⟨M + (j + 1), 0, none⟩) (fldsN (j + 1)).length (fldsN (j + 1)).length) F B SB V1 (HLW.out.later (HV.out.1.trans hl1))
    (by have h9 := HV.out.2.2.2.2.2.2.2.1; rw [hl1.block F HV.out.2.2.2.2.2.2.1, h9]; unfold entA; rw [hnm])
    (by rw [HR.out.2.2.2, hl1.block B (by have := HWW.out.2.2; omega), HV.out.1.block B (by have := HWW.out.2.2; omega)]; exact HR.out.2.1)
    (by rw [hl1.block SB (by omega), HV.out.1.block SB (by have := HWW.out.2.2.2; omega)]; exact HR.out.2.2.1)
    (enter_show j hj)
    (fun V2 hV2 => by
     have := show_any j hj r hr M N V2 (HLW.out.later ((HV.out.1.trans hl1).trans hV2)) ((HV.out.2.2.2.2.1.later hl1 HV.out.2.1 HV.out.2.2.2.1).later hV2 HV.out.2.1 (Nat.le_trans HV.out.2.2.2.1 hl1.size))
     rw [hfl] at this
     exact this)
   have HT := Lib.hid (try_is 60 #[] #[.pointer (some ⟨F, 0, none⟩), .pointer (some ⟨B, 0, none⟩), .pointer (some ⟨SB, 0, none⟩)] V (fun w1 => ∃ ws, shFs r fl = some ws ∧ ∃ V0, Later V1 V0 ∧ w1 = V0.setCell ⟨SB, 0, none⟩ (strV (jn (nm :: ws)))) (fun w1 => shFs r fl = none ∧ Later V1 w1) enter60
    (by
     rw [hV1, hK]
     refine hline1.mono fun e w' hQ => ?_
     cases hs : shFs r fl with
     | none =>
      rw [hs] at hQ
      exact ⟨(hQ.2.block K hK2).trans hK1, .inr ⟨hQ.1, rfl, hQ.2⟩⟩
     | some ws =>
      rw [hs] at hQ
      obtain ⟨he, V0, h0, hw'⟩ := hQ
      refine ⟨?_, .inl ⟨he, ws, rfl, V0, h0, hw'⟩⟩
      rw [hw', Below.heap_setCell _ _ _ _ (by simp; omega)]
      exact (h0.block K hK2).trans hK1))
   rw [hK] at HT
   have HLN := Lib.hid (And.intro hline (And.intro hflen hnlen))
   have HKK := Lib.hid (And.intro hl1 (And.intro hK2 (And.intro hSK hlV)))
   have hmf : ∀ (fn : Fn) (first cap : Array Value) (w : World), (Instr.makeFunc fn first cap).run Tryz.prog w = .ok (.func fn first cap) w := fun _ _ _ _ => rfl
   clear hline hflen hnlen hl1 hK1 hK2 hSK hlV hline1 hV1 hK hfl hnm
   go_wp2_with fail
   refine HT.out.mono ?_
   rintro e w4 (⟨rfl, w5, ⟨ws, hs, V0, h0, rfl⟩, rfl⟩ | ⟨rfl, w5, ⟨hs, h0⟩, rfl⟩)
   ·obtain ⟨t, ht⟩ : ∃ t, jn (nm :: ws) = t := ⟨_, rfl⟩
    rw [ht]
    have hws : w.heap.size ≤ SB := by have := HWW.out.2.2; have := HWW.out.2.1; omega
    have hwB : w.heap.size = B := HWW.out.2.1
    have hBS : B + 1 = SB := HWW.out.2.2.1
    have hlV0 : Later w V0 := (HKK.out.2.2.2.trans HKK.out.1).trans h0
    have hl4 : Later w ((V0.setCell ⟨SB, 0, none⟩ (strV t)).setCell ⟨K, 0, none⟩ (.bool true)) := (hlV0.setCell _ _ hws).setCell _ _ (by show w.heap.size ≤ K; have := HKK.out.2.2.1; omega)
    have hSV0 : SB < V0.heap.size := by have := h0.size; have := HKK.out; omega
    have hs0 : V0.heap[SB]? = some (.cells #[.string ⟨#[]⟩] 9 (0, 0)) := by
     rw [h0.block SB (by have := HKK.out; omega), HKK.out.1.block SB (by have := HKK.out.2.2.1; have := HV.out.1.size; have := HWW.out.2.2.2; omega), HV.out.1.block SB (by have := HWW.out.2.2.2; omega)]
     exact HR.out.2.2.1
    have hB0 : V0.heap[B]? = some (.cells R 39 (0, 0)) := by
     rw [h0.block B (by have := HKK.out; omega), HKK.out.1.block B (by have := HV.out.1.size; have := HWW.out.2.2.2; omega), HV.out.1.block B (by have := HWW.out.2.2.2; omega)]
     exact HR.out.2.1
    have c4 : ((V0.setCell ⟨SB, 0, none⟩ (strV t)).setCell ⟨K, 0, none⟩ (.bool true)).cell? ⟨SB, 0, none⟩ = some (strV t) := by
     rw [World.cell?_setCell_other _ _ _ _ (by intro h; injection h with h; have := HKK.out.2.2.1; omega)]
     exact World.cell?_setCell_same V0 _ _ (by rw [Lib.cell_of_heap hs0]; rfl)
    have cB : ((V0.setCell ⟨SB, 0, none⟩ (strV t)).setCell ⟨K, 0, none⟩ (.bool true)).heap[B]? = some (.cells R 39 (0, 0)) := by
     rw [Below.heap_setCell _ _ _ _ (by simp; have := HKK.out.2.2.1; omega), Below.heap_setCell _ _ _ _ (by simp; omega)]
     exact hB0
    obtain ⟨W4, hW4⟩ : ∃ W4, (V0.setCell ⟨SB, 0, none⟩ (strV t)).setCell ⟨K, 0, none⟩ (.bool true) = W4 := ⟨_, rfl⟩
    have hB4 : B < W4.heap.size := by rw [← hW4]; simp; omega
    have hS4 : SB < W4.heap.size := by rw [← hW4]; simp; omega
    rw [hW4] at hl4 c4 cB ⊢
    have hlen : t.length ≤ 80000000 := by
     rw [← ht]
     have h1 := jn_len (nm :: ws)
     obtain ⟨h2, h3⟩ := shFs_sum r hr fl ws hs
     have := HLN.out.2
     simp only [sumL, List.map_cons, List.sum_cons, List.length_cons] at h1 h3
     omega
    have HRR := Lib.hid (ReadRequest_is t hlen W4 (hw.later hl4))
    obtain ⟨hsp, hrd⟩ := read_line r ⟨hr.hg, hr.qk, hr.qb, hr.lim⟩ (nm :: ws) (by rw [HLN.out.1, hs]; rfl)
    rw [ht] at hsp
    rw [hsp] at HRR
    have hshow : res = if readR (nm :: ws) = some r then some t else none := by
     rw [← HRES.out, showP, HLN.out.1, hs]
     simp only [Option.map_some]
     rw [ht, hsp]
    obtain ⟨T, hT⟩ : ∃ T : ByteArray, T = ⟨t.toArray⟩ := ⟨_, rfl⟩
    unfold strV at c4
    rw [← hT] at HRR c4
    have hne7 : ∀ W : World, (binOp .neq 24 (.int .i64 7) (.int .i64 0)).run Tryz.prog W = .ok (.bool true) W := fun W => by rfl
    have HL4 := Lib.hid hl4
    have HCB := Lib.hid (And.intro cB (And.intro hB4 hS4))
    have HC4 := Lib.hid c4
    have HSH := Lib.hid hshow
    rcases hrd with ⟨hlm, hrd⟩ | ⟨hlm, hrd⟩
    ·rw [hrd] at HRR hshow
     have HRR2 := Lib.hid (show Calls Tryz.prog 15 #[.string T] W4 fun e w' => e = .returned (.tuple #[reqV (bare r), .int .i64 0]) ∧ Later W4 w' from HRR.out)
     obtain ⟨b, hb, hbq⟩ := eq_req (bare r) r (bare_wf hr.wf) hr.wf W4
     have heq : ∀ W : World, (binOp .neq 39 (reqV (bare r)) (.agg R)).run Tryz.prog W = .ok (.bool (!b)) W := fun W => by
      obtain ⟨b2, hb2, hbq2⟩ := eq_req (bare r) r (bare_wf hr.wf) hr.wf W
      have : b2 = b := by rw [Bool.eq_iff_iff, hbq2, hbq]
      rw [this] at hb2
      rw [← HR.out.2.2.2]
      exact hb2
     obtain ⟨Q, hQ⟩ : ∃ Q, reqA (bare r) = Q := ⟨_, rfl⟩
     have hQs : (Tryz.prog.info? 39).map (·.size) = some Q.size := by rw [← hQ]; exact reqA_info
     have hQo : Q.all (·.oneCell') = true := by rw [← hQ]; exact reqA_one _
     have hQl : (Tryz.prog.info? 39).map (·.size) = some Q.toList.length := by rw [Array.length_toList]; exact hQs
     have hRl : (Tryz.prog.info? 39).map (·.size) = some R.toList.length := by rw [← HR.out.2.2.2]; exact reqA_info
     have hQz : (reqA req0).size = Q.size := by rw [← hQ]; rfl
     unfold reqV at HRR2 heq
     rw [hQ] at HRR2 heq
     have HQQ := Lib.hid (And.intro hQs (And.intro hQo (And.intro hQl (And.intro hRl hQz))))
     have HEQ := Lib.hid heq
     have HBQ := Lib.hid hbq
     have HTT := Lib.hid hT
     have HRD := Lib.hid hrd
     clear hs h0 hlen hsp hrd hshow hb heq hbq hQ hQs hQo hQl hRl hQz HRR hl4 hT ht hlm hlV0 hSV0 hs0 hB0 cB hW4 hB4 hS4
     go_wp2_with fail
     refine HRR2.out.mono ?_
     rintro e w6 ⟨rfl, hl6⟩
     have HL6 := Lib.hid hl6
     have HZ := Lib.hid (show (w6.alloc (.cells (reqA req0) 39)).heap[w6.heap.size]? = some (.cells (reqA req0) 39 (0, 0)) from (MapKept.heap_alloc w6 _).1)
     clear hl6 c4
     go_upto_region 6 with (refine wpList_store_rowTo rfl 39 (.tmp 7) (.tmp 26) rfl rfl w6.heap.size Q rfl rfl 39 (reqA req0) HZ.out HQQ.out.1 HQQ.out.2.2.2.2 HQQ.out.2.1 ?_)
     obtain ⟨K6, hK6⟩ : ∃ K6, w6.heap.size = K6 := ⟨_, rfl⟩
     have hu : (w6.alloc (.cells (reqA req0) 39)).setRow w6.heap.size Q = (w6.alloc (.cells (reqA req0) 39)).setRow w6.heap.size Q := rfl
     obtain ⟨w7, hw7⟩ : ∃ w7, (w6.alloc (.cells (reqA req0) 39)).setRow w6.heap.size Q = w7 := ⟨_, rfl⟩
     have hl7 : Later W4 w7 := by rw [← hw7]; exact row_later (HL6.out.alloc _) HL6.out.size Q
     have hqb : w7.heap[K6]? = some (.cells Q 39 (0, 0)) := by rw [← hw7, ← hK6]; exact setRow_heap _ _ _ Q 39 (0, 0) HZ.out
     have hrb : w7.heap[B]? = some (.cells R 39 (0, 0)) := by rw [hl7.block B HCB.out.2.1]; exact HCB.out.1
     have hsb : w7.cell? ⟨SB, 0, none⟩ = some (.string T) := cell_at hl7 HC4.out HCB.out.2.2
     have hw8 : (w6.alloc (.cells #[.int .i64 0, .int .i64 0, .int .u32 0, .int .u8 0, .string ⟨#[]⟩, .string ⟨#[]⟩, .string ⟨#[]⟩, .int .i64 0, .int .i64 0, .int .u64 0, .int .u64 0, .int .u8 0] 39)).setRow w6.heap.size Q = w7 := hw7
     rw [hw8, hK6]
     have HL7 := Lib.hid (HL4.out.trans hl7)
     have HQB := Lib.hid hqb
     have HRB := Lib.hid hrb
     have HSB := Lib.hid hsb
     clear hl7 hqb hrb hsb hw7 hK6 hu hw8
     have hrg : ∀ (k : Nat) (cs : Array Value), w7.heap[k]? = some (.cells cs 39 (0, 0)) → w7.rangeAt k 0 cs.toList := fun k cs hk o v hv => by
      rw [Nat.zero_add, Lib.cell_of_heap hk]
      show cs[o]? = some v
      rw [← Array.getElem?_toList]
      exact hv
     have HQG := Lib.hid (hrg K6 Q HQB.out)
     have HRG := Lib.hid (hrg B R HRB.out)
     clear hrg
     have hbare : readR (nm :: ws) = some (bare r) := HRD.out
     have HEQ7 := HEQ.out w7
     have HEQ7 := Lib.hid HEQ7
     cases b with
     | false =>
      have HF := Lib.hid (show SREnd res (.returned (.tuple #[.string ⟨#[]⟩, .int .i64 4])) by
       rw [HSH.out, hbare, if_neg (by intro h; injection h with h; have := HBQ.out.2 h; cases this)]
       rfl)
      clear hbare
      go_upto_region 7 with (refine wpList_step (o := ⟨some 31, .load 39 (.tmp 7), 39, _, #[⟨2, .guard⟩], some (2, false)⟩) (fun K1 hK1 => ?_); rw [if_pos (by rfl)]; refine wp_load_mid 39 (.tmp 7) rfl K6 0 rfl Q.toList _ HQG.out Tryz.underlying39 rfl HQQ.out.2.2.1 ?_; rw [Array.toArray_toList]; refine hK1 _ _ ?_; refine wpList_step (fun K2 hK2 => ?_); rw [if_pos (by rfl)]; refine wp_load_mid 39 (.tmp 1) rfl B 0 rfl R.toList _ HRG.out Tryz.underlying39 rfl HQQ.out.2.2.2.1 ?_; rw [Array.toArray_toList]; refine hK2 _ _ ?_; refine wpList_step (fun K3 hK3 => ?_); rw [if_pos (by rfl)]; refine wp_neq39 (.tmp 31) (.tmp 32) 39 rfl Q R rfl rfl _ HEQ7.out ?_; refine hK3 _ _ ?_)
      go_wp2_with fail
      go_ret2
      exact ⟨HF.out, HL7.out⟩
     | true =>
      have HF := Lib.hid (show SREnd res (.returned (.tuple #[.string T, .int .i64 0])) by
       rw [HSH.out, hbare, if_pos (by rw [HBQ.out.1 rfl])]
       rw [HTT.out]
       rfl)
      have hsb7 := HSB.out
      clear hbare
      go_upto_region 8 with (refine wpList_step (o := ⟨some 31, .load 39 (.tmp 7), 39, _, #[⟨2, .guard⟩], some (2, false)⟩) (fun K1 hK1 => ?_); rw [if_pos (by rfl)]; refine wp_load_mid 39 (.tmp 7) rfl K6 0 rfl Q.toList _ HQG.out Tryz.underlying39 rfl HQQ.out.2.2.1 ?_; rw [Array.toArray_toList]; refine hK1 _ _ ?_; refine wpList_step (fun K2 hK2 => ?_); rw [if_pos (by rfl)]; refine wp_load_mid 39 (.tmp 1) rfl B 0 rfl R.toList _ HRG.out Tryz.underlying39 rfl HQQ.out.2.2.2.1 ?_; rw [Array.toArray_toList]; refine hK2 _ _ ?_; refine wpList_step (fun K3 hK3 => ?_); rw [if_pos (by rfl)]; refine wp_neq39 (.tmp 31) (.tmp 32) 39 rfl Q R rfl rfl _ HEQ7.out ?_; refine hK3 _ _ ?_)
      go_wp2_with fail
      go_ret2
      exact ⟨HF.out, HL7.out⟩
    ·rw [hrd] at HRR hshow
     have HF := Lib.hid (show SREnd res (.returned (.tuple #[.string ⟨#[]⟩, .int .i64 4])) by
      rw [hshow, if_neg (by simp)]
      rfl)
     obtain ⟨e7, he7⟩ : ∃ e7 : Ending, e7 = .returned (.tuple #[reqV req0, .int .i64 7]) := ⟨_, rfl⟩
     have HRR2 := Lib.hid (show Calls Tryz.prog 15 #[.string T] W4 fun e w' => e = .returned (.tuple #[.agg (reqA req0), .int .i64 7]) ∧ Later W4 w' from HRR.out)
     obtain ⟨Q, hQ⟩ : ∃ Q, reqA req0 = Q := ⟨_, rfl⟩
     have hQs : (Tryz.prog.info? 39).map (·.size) = some Q.size := by rw [← hQ]; exact reqA_info
     have hQo : Q.all (·.oneCell') = true := by rw [← hQ]; exact reqA_one _
     have hQz : (reqA req0).size = Q.size := by rw [← hQ]
     rw [hQ] at HRR2
     have HQQ := Lib.hid (And.intro hQs (And.intro hQo hQz))
     clear hs h0 hlen hsp hrd hshow hQ hQs hQo hQz HRR hl4 hT ht hlm hlV0 hSV0 hs0 hB0 cB hW4 hB4 hS4 he7
     go_wp2_with fail
     refine HRR2.out.mono ?_
     rintro e w6 ⟨rfl, hl6⟩
     have HL6 := Lib.hid hl6
     have HZ := Lib.hid (show (w6.alloc (.cells (reqA req0) 39)).heap[w6.heap.size]? = some (.cells (reqA req0) 39 (0, 0)) from (MapKept.heap_alloc w6 _).1)
     clear hl6 c4
     go_upto_region 6 with (refine wpList_store_rowTo rfl 39 (.tmp 7) (.tmp 26) rfl rfl w6.heap.size Q rfl rfl 39 (reqA req0) HZ.out HQQ.out.1 HQQ.out.2.2 HQQ.out.2.1 ?_)
     have hl7 : Later W4 ((w6.alloc (.cells (reqA req0) 39)).setRow w6.heap.size Q) := row_later (HL6.out.alloc _) HL6.out.size Q
     have HL7 := Lib.hid (HL4.out.trans hl7)
     clear hl7
     go_wp2_with fail
     go_ret2
     exact ⟨HF.out, HL7.out⟩
   ·have HF := Lib.hid (show SREnd res (.returned (.tuple #[.string ⟨#[]⟩, .int .i64 4])) by
     have : res = none := by rw [← HRES.out, showP, HLN.out.1, hs]; rfl
     rw [this]
     rfl)
    have HG := Lib.hid (show Later w (w5.setCell ⟨K, 0, none⟩ (.bool false)) from ((HKK.out.2.2.2.trans HKK.out.1).trans h0).setCell _ _ (by show w.heap.size ≤ K; have := HKK.out.2.2.1; have := HWW.out.2.2; have := HWW.out.2.1; omega))
    clear hs h0
    go_wp2_with fail
    go_ret2
    exact ⟨HF.out, HG.out⟩
 case hstep =>
  intro i D a V hi hD hdep hI
  obtain ⟨M, N, F, x5, x6, x9, x10, x11, x12, x13, x14, x15, rfl, hl, hFN, f0, f1, f2, f3, f4, f5, f6, f7, f8, f9⟩ := hI
  have hi' : i = 0 ∨ i = 1 ∨ i = 2 ∨ i = 3 ∨ i = 4 ∨ i = 5 ∨ i = 6 ∨ i = 7 ∨ i = 8 ∨ i = 9 := by
   have : i < 10 := hi
   omega
  rcases hi' with rfl | rfl | rfl | rfl | rfl | rfl | rfl | rfl | rfl | rfl
  ·refine wpOp_step rfl (fun K' hK => ?_)
   rw [if_pos (by rfl)]
   go_simp
   refine (forms_is V).mono ?_
   rintro e V2 ⟨rfl, hfs⟩
   have hl2 := hfs.later
   have hs2 := hfs.size
   exact hK _ _ ⟨(V.heap.size + 4), V.heap.size, F, x5, x6, x9, _, x11, x12, x13, x14, x15, rfl, hl.trans hl2, (fun _ h7 => .inl (f7 (by simpa [updD] using h7)).2.2.1), fun _ => ⟨rfl, rfl, hl.size, by omega, hfs.fb⟩, fun h => f1 (by simpa [updD] using h), fun h => f2 (by simpa [updD] using h), fun h => absurd (f3 (by simpa [updD] using h)).1 (by rw [hD]; decide), fun h => absurd (f4 (by simpa [updD] using h)).1 (by rw [hD]; decide), fun h => absurd (f5 (by simpa [updD] using h)).1 (by rw [hD]; decide), fun h => f6 (by simpa [updD] using h), fun h => (let g := f7 (by simpa [updD] using h); ⟨g.1, g.2.1, Nat.lt_of_lt_of_le g.2.2.1 hl2.size, (fun h8 => (hl2.block F g.2.2.1).trans (g.2.2.2.1 (by simpa [updD] using h8))), (fun h8 => absurd (f8 (by simpa [updD] using h8)).1 (by rw [hD]; decide))⟩), fun h => absurd (f8 (by simpa [updD] using h)).1 (by rw [hD]; decide), fun h => f9 (by simpa [updD] using h)⟩
  ·refine wpOp_step rfl (fun K' hK => ?_)
   rw [if_pos (by rfl)]
   go_simp
   exact hK _ _ ⟨M, N, F, x5, x6, x9, x10, _, x12, x13, x14, x15, rfl, hl, (fun h h7 => hFN (by simpa [updD] using h) (by simpa [updD] using h7)), fun h => f0 (by simpa [updD] using h), fun _ => rfl, fun h => f2 (by simpa [updD] using h), fun h => (let g := f3 (by simpa [updD] using h); ⟨by simpa [updD] using g.1, g.2⟩), fun h => (let g := f4 (by simpa [updD] using h); ⟨by simpa [updD] using g.1, g.2⟩), fun h => (let g := f5 (by simpa [updD] using h); ⟨by simpa [updD] using g.1, g.2⟩), fun h => f6 (by simpa [updD] using h), fun h => (let g := f7 (by simpa [updD] using h); ⟨g.1, g.2.1, g.2.2.1, (fun h8 => g.2.2.2.1 (by simpa [updD] using h8)), (fun h8 => g.2.2.2.2 (by simpa [updD] using h8))⟩), fun h => (let g := f8 (by simpa [updD] using h); ⟨by simpa [updD] using g.1, by simpa [updD] using g.2⟩), fun h => f9 (by simpa [updD] using h)⟩
  ·have g1 := f1 (hdep 1 (by kernel_rfl))
   subst g1
   have hc := HBc.out V hl 0 (.int .i64 d) HD0.out
   refine wpOp_step rfl (fun K' hK => ?_)
   rw [if_pos (by rfl)]
   go_simp
   exact hK _ _ ⟨M, N, F, x5, x6, x9, x10, _, _, x13, x14, x15, rfl, hl, (fun h h7 => hFN (by simpa [updD] using h) (by simpa [updD] using h7)), fun h => f0 (by simpa [updD] using h), fun h => f1 (by simpa [updD] using h), fun _ => rfl, fun h => (let g := f3 (by simpa [updD] using h); ⟨by simpa [updD] using g.1, g.2⟩), fun h => (let g := f4 (by simpa [updD] using h); ⟨by simpa [updD] using g.1, g.2⟩), fun h => (let g := f5 (by simpa [updD] using h); ⟨by simpa [updD] using g.1, g.2⟩), fun h => f6 (by simpa [updD] using h), fun h => (let g := f7 (by simpa [updD] using h); ⟨g.1, g.2.1, g.2.2.1, (fun h8 => g.2.2.2.1 (by simpa [updD] using h8)), (fun h8 => g.2.2.2.2 (by simpa [updD] using h8))⟩), fun h => (let g := f8 (by simpa [updD] using h); ⟨by simpa [updD] using g.1, by simpa [updD] using g.2⟩), fun h => f9 (by simpa [updD] using h)⟩
  ·have g0 := f0 (hdep 0 (by kernel_rfl))
   have g2 := f2 (hdep 2 (by kernel_rfl))
   subst g2
   obtain ⟨rfl, hNM, hWN, hMV, hFB⟩ := g0
   have hlk := HLK.out M N V hFB
   refine wpOp_step rfl (fun K' hK => ?_)
   rw [if_pos (by rfl)]
   go_simp
   exact hK _ _ ⟨M, N, F, x5, x6, x9, _, x11, _, _, x14, x15, rfl, hl, (fun h h7 => hFN (by simpa [updD] using h) (by simpa [updD] using h7)), fun h => f0 (by simpa [updD] using h), fun h => f1 (by simpa [updD] using h), fun h => f2 (by simpa [updD] using h), fun _ => ⟨by simpa [updD] using hdep 0 (by kernel_rfl), rfl⟩, fun h => (let g := f4 (by simpa [updD] using h); ⟨by simpa [updD] using g.1, g.2⟩), fun h => (let g := f5 (by simpa [updD] using h); ⟨by simpa [updD] using g.1, g.2⟩), fun h => f6 (by simpa [updD] using h), fun h => (let g := f7 (by simpa [updD] using h); ⟨g.1, g.2.1, g.2.2.1, (fun h8 => g.2.2.2.1 (by simpa [updD] using h8)), (fun h8 => g.2.2.2.2 (by simpa [updD] using h8))⟩), fun h => (let g := f8 (by simpa [updD] using h); ⟨by simpa [updD] using g.1, by simpa [updD] using g.2⟩), fun h => f9 (by simpa [updD] using h)⟩
  ·have g3 := f3 (hdep 3 (by kernel_rfl))
   obtain ⟨h0, rfl⟩ := g3
   have H0 := Lib.hid h0
   clear h0
   refine wpOp_step rfl (fun K' hK => ?_)
   rw [if_pos (by rfl)]
   go_simp
   exact hK _ _ ⟨M, N, F, x5, x6, _, x10, x11, x12, _, x14, x15, rfl, hl, (fun h h7 => hFN (by simpa [updD] using h) (by simpa [updD] using h7)), fun h => f0 (by simpa [updD] using h), fun h => f1 (by simpa [updD] using h), fun h => f2 (by simpa [updD] using h), fun h => (let g := f3 (by simpa [updD] using h); ⟨by simpa [updD] using g.1, g.2⟩), fun _ => ⟨by simpa [updD] using H0.out, rfl⟩, fun h => (let g := f5 (by simpa [updD] using h); ⟨by simpa [updD] using g.1, g.2⟩), fun h => f6 (by simpa [updD] using h), fun h => (let g := f7 (by simpa [updD] using h); ⟨g.1, g.2.1, g.2.2.1, (fun h8 => g.2.2.2.1 (by simpa [updD] using h8)), (fun h8 => g.2.2.2.2 (by simpa [updD] using h8))⟩), fun h => (let g := f8 (by simpa [updD] using h); ⟨by simpa [updD] using g.1, by simpa [updD] using g.2⟩), fun h => f9 (by simpa [updD] using h)⟩
  ·have g4 := f4 (hdep 4 (by kernel_rfl))
   obtain ⟨h0, rfl⟩ := g4
   have H0 := Lib.hid h0
   clear h0
   refine wpOp_step rfl (fun K' hK => ?_)
   rw [if_pos (by rfl)]
   go_simp
   exact hK _ _ ⟨M, N, F, x5, x6, _, x10, x11, x12, x13, _, x15, rfl, hl, (fun h h7 => hFN (by simpa [updD] using h) (by simpa [updD] using h7)), fun h => f0 (by simpa [updD] using h), fun h => f1 (by simpa [updD] using h), fun h => f2 (by simpa [updD] using h), fun h => (let g := f3 (by simpa [updD] using h); ⟨by simpa [updD] using g.1, g.2⟩), fun h => (let g := f4 (by simpa [updD] using h); ⟨by simpa [updD] using g.1, g.2⟩), fun _ => ⟨by simpa [updD] using H0.out, rfl⟩, fun h => f6 (by simpa [updD] using h), fun h => (let g := f7 (by simpa [updD] using h); ⟨g.1, g.2.1, g.2.2.1, (fun h8 => g.2.2.2.1 (by simpa [updD] using h8)), (fun h8 => g.2.2.2.2 (by simpa [updD] using h8))⟩), fun h => (let g := f8 (by simpa [updD] using h); ⟨by simpa [updD] using g.1, by simpa [updD] using g.2⟩), fun h => f9 (by simpa [updD] using h)⟩
  ·have g4 := f4 (hdep 4 (by kernel_rfl))
   obtain ⟨h0, rfl⟩ := g4
   have H0 := Lib.hid h0
   clear h0
   refine wpOp_step rfl (fun K' hK => ?_)
   rw [if_pos (by rfl)]
   go_simp
   exact hK _ _ ⟨M, N, F, x5, x6, _, x10, x11, x12, x13, x14, _, rfl, hl, (fun h h7 => hFN (by simpa [updD] using h) (by simpa [updD] using h7)), fun h => f0 (by simpa [updD] using h), fun h => f1 (by simpa [updD] using h), fun h => f2 (by simpa [updD] using h), fun h => (let g := f3 (by simpa [updD] using h); ⟨by simpa [updD] using g.1, g.2⟩), fun h => (let g := f4 (by simpa [updD] using h); ⟨by simpa [updD] using g.1, g.2⟩), fun h => (let g := f5 (by simpa [updD] using h); ⟨by simpa [updD] using g.1, g.2⟩), fun _ => rfl, fun h => (let g := f7 (by simpa [updD] using h); ⟨g.1, g.2.1, g.2.2.1, (fun h8 => g.2.2.2.1 (by simpa [updD] using h8)), (fun h8 => g.2.2.2.2 (by simpa [updD] using h8))⟩), fun h => (let g := f8 (by simpa [updD] using h); ⟨by simpa [updD] using g.1, by simpa [updD] using g.2⟩), fun h => f9 (by simpa [updD] using h)⟩
  ·have hl2 : Later V (V.alloc (.cells #[.string ⟨#[]⟩, .slice none 0 0, .nilFunc] 116)) := (Later.refl V).alloc _
   refine wpOp_step rfl (fun K' hK => ?_)
   rw [if_pos (by rfl)]
   go_simp
   exact hK _ _ ⟨M, N, V.heap.size, _, x6, x9, x10, x11, x12, x13, x14, x15, rfl, hl.trans hl2, (fun h0 _ => .inr (f0 (by simpa [updD] using h0)).2.2.2.1), fun h => (let g := f0 (by simpa [updD] using h); ⟨g.1, g.2.1, g.2.2.1, Nat.le_trans g.2.2.2.1 hl2.size, g.2.2.2.2.later hl2 g.2.1 g.2.2.2.1⟩), fun h => f1 (by simpa [updD] using h), fun h => f2 (by simpa [updD] using h), fun h => (let g := f3 (by simpa [updD] using h); ⟨by simpa [updD] using g.1, g.2⟩), fun h => (let g := f4 (by simpa [updD] using h); ⟨by simpa [updD] using g.1, g.2⟩), fun h => (let g := f5 (by simpa [updD] using h); ⟨by simpa [updD] using g.1, g.2⟩), fun h => f6 (by simpa [updD] using h), fun _ => ⟨rfl, hl.size, by simp, (fun _ => (MapKept.heap_alloc V _).1), (fun h8 => absurd (f8 (by simpa [updD] using h8)).2 (by rw [hD]; decide))⟩, fun h => absurd (f8 (by simpa [updD] using h)).2 (by rw [hD]; decide), fun h => f9 (by simpa [updD] using h)⟩
  ·have g7 := f7 (hdep 7 (by kernel_rfl))
   have g5 := f5 (hdep 5 (by kernel_rfl))
   obtain ⟨h0, rfl⟩ := g5
   have H0 := Lib.hid h0
   clear h0
   have hD7 := hdep 7 (by kernel_rfl)
   obtain ⟨rfl, g7⟩ := g7
   have g7 : True ∧ W.heap.size ≤ F ∧ F < V.heap.size ∧ (D 8 = false → V.heap[F]? = some (.cells zA 116 (0, 0))) := ⟨trivial, g7.1, g7.2.1, g7.2.2.1⟩
   have hz := g7.2.2.2 hD
   refine wpOp_step rfl (fun K' hK => ?_)
   rw [if_pos (by rfl)]
   refine wp_store_row 116 (.tmp 5) (.tmp 14) rfl F (E M N) rfl rfl 116 zA hz (by rw [HE3.out]; exact info116) (by rw [HE3.out]; rfl) (HE1.out M N) ?_
   exact hK _ _ ⟨M, N, F, _, x6, x9, x10, x11, x12, x13, _, x15, rfl, row_later hl g7.2.1 _, (fun h h7 => hFN (by simpa [updD] using h) (by simpa [updD] using h7)), fun h => (let g := f0 (by simpa [updD] using h); ⟨g.1, g.2.1, g.2.2.1, by simpa using g.2.2.2.1, g.2.2.2.2.setRow g.2.1 (hFN (by simpa [updD] using h) hD7) _⟩), fun h => f1 (by simpa [updD] using h), fun h => f2 (by simpa [updD] using h), fun h => (let g := f3 (by simpa [updD] using h); ⟨by simpa [updD] using g.1, g.2⟩), fun h => (let g := f4 (by simpa [updD] using h); ⟨by simpa [updD] using g.1, g.2⟩), fun h => (let g := f5 (by simpa [updD] using h); ⟨by simpa [updD] using g.1, g.2⟩), fun h => f6 (by simpa [updD] using h), fun h => ⟨rfl, g7.2.1, by simpa using g7.2.2.1, (fun h8 => by simp [updD] at h8), (fun _ => setRow_heap V F zA (E M N) 116 (0, 0) hz)⟩, fun _ => ⟨by simpa [updD] using H0.out, by simpa [updD] using hD7⟩, fun h => f9 (by simpa [updD] using h)⟩
  ·have g6 := f6 (hdep 6 (by kernel_rfl))
   subst g6
   refine wpOp_step rfl (fun K' hK => ?_)
   rw [if_pos (by rfl)]
   go_simp
   exact hK _ _ ⟨M, N, F, x5, _, x9, x10, x11, x12, x13, x14, _, rfl, hl, (fun h h7 => hFN (by simpa [updD] using h) (by simpa [updD] using h7)), fun h => f0 (by simpa [updD] using h), fun h => f1 (by simpa [updD] using h), fun h => f2 (by simpa [updD] using h), fun h => (let g := f3 (by simpa [updD] using h); ⟨by simpa [updD] using g.1, g.2⟩), fun h => (let g := f4 (by simpa [updD] using h); ⟨by simpa [updD] using g.1, g.2⟩), fun h => (let g := f5 (by simpa [updD] using h); ⟨by simpa [updD] using g.1, g.2⟩), fun h => f6 (by simpa [updD] using h), fun h => (let g := f7 (by simpa [updD] using h); ⟨g.1, g.2.1, g.2.2.1, (fun h8 => g.2.2.2.1 (by simpa [updD] using h8)), (fun h8 => g.2.2.2.2 (by simpa [updD] using h8))⟩), fun h => (let g := f8 (by simpa [updD] using h); ⟨by simpa [updD] using g.1, by simpa [updD] using g.2⟩), fun _ => rfl⟩
open Classical in
theorem ShowRequest_is (r : Req) (hr : r.fit) (w : World) (hw : Laid w) : Calls Tryz.prog 22 #[reqV r] w fun e w' => SREnd (showP r) e ∧ Later w w' := by
 cases hd : deedN r.deed with
 | none =>
  refine ShowRequest_in r hr w hw r.deed rfl (fun _ _ => zA) false (fun _ _ => rfl) (fun _ _ => by simp [zA, Value.oneCell']) (fun M N V h => look_no M N V h r.deed ?_) (.inl ⟨rfl, ?_⟩)
  ·intro h
   unfold deedN at hd
   rw [if_pos h] at hd
   cases hd
  ·unfold showP lineP
   rw [hd]
   rfl
 | some n =>
  obtain ⟨h1, h2⟩ := deedN_of hd
  obtain ⟨j, rfl⟩ : ∃ j, n = j + 1 := ⟨n - 1, by omega⟩
  refine ShowRequest_in r hr w hw r.deed rfl (entA j) true (fun _ _ => rfl) (fun M N => ?_) (fun M N V h => look_yes j (by omega) M N V h r.deed h1.symm) (.inr ⟨j, by omega, rfl, rfl, hd⟩)
  simp [entA, strV, Value.oneCell']

end Go.Proofs.YtkbedajbbakihaaGreatDoor
