/-
 Texts of this proof, put together (Df): each part's first words say what it holds. Conditions: as each part says.
-/
import Derived.Test.YtkbedajbbakihaaGreatDoorYa
import Derived.Test.YtkbedajbbakihaaGreatDoorQj
import Derived.Test.YtkbedajbbakihaaGreatDoorVd
/-
 FormatDone at results that are all alike, walked. Conditions: the answer has a text; the listed variables read as laid.
-/
namespace Go.Proofs.YtkbedajbbakihaaGreatDoor
open Go.RowKit Go.Sort Go.Lib
set_option linter.unusedSimpArgs false
set_option linter.unusedVariables false

theorem mixedF : Tryz.prog.follows .mixedOrders = true := by kernel_rfl
/-- a result: zeros, where it went tq, its answer's value -/
def dnC (tq : Int) (val : List UInt8) : List Value := [.int .i64 0, .int .i64 0, .int .i64 0, .int .i64 tq] ++ (ansA 0 val nilS).toList
theorem dnC_len (tq : Int) (val : List UInt8) : (dnC tq val).length = 21 := rfl
theorem info106 : (Tryz.prog.info? 106).map (·.size) = some 21 := by kernel_rfl
/-- v is a slice over n results that are alike -/
def DonesAt (w : World) (v : Value) (n : Nat) (D : List Value) : Prop := ∃ ao cap, v = .slice ao n cap ∧ (n = 0 ∨ ∃ X off, ao = some ⟨X, off, none⟩ ∧ ∀ i, i < n → w.rangeAt X (off + i * 21) D)
theorem DonesAt.later {w w' : World} {v : Value} {n : Nat} {D : List Value} (h : DonesAt w v n D) (hl : Later w w') : DonesAt w' v n D := by
 obtain ⟨ao, cap, h1, h2⟩ := h
 refine ⟨ao, cap, h1, h2.imp id ?_⟩
 rintro ⟨X, off, h3, h4⟩
 exact ⟨X, off, h3, fun i hi j u hj => cell_at hl (h4 i hi j u hj) (cell_lt (h4 i hi j u hj))⟩
/-- FormatDone's state: A is written -/
structure DfS (w : World) (N : Nat) (A : List UInt8) (wr : World) : Prop where
 wb : WB (N + 1) N (Lib.byteCells A) wr
 later : Later w wr
theorem DfS.after {w : World} {N : Nat} {A : List UInt8} {wr wr' : World} (h : DfS w N A wr) (hl : Later wr wr') : DfS w N A wr' := ⟨h.wb.later hl, h.later.trans hl⟩
theorem DfS.write {w : World} {N : Nat} {A B : List UInt8} {wr wr' : World} (h : DfS w N A wr) (hN : w.heap.size = N) (s : ByteArray) (hs : s.data.toList = B) (hb : WB (N + 1) N (Lib.byteCells A ++ Lib.strCells s) wr') (hk : Kept (N + 1) N wr wr') : DfS w N (A ++ B) wr' :=
 ⟨by rw [show Lib.byteCells (A ++ B) = Lib.byteCells A ++ Lib.strCells s by simp [Lib.byteCells, Lib.strCells, hs]]; exact hb, hk.later h.later (by omega) (by omega)⟩
/-- the line of a result -/
def dnL (tq : Int) (t : List UInt8) : List UInt8 := jn [[48], [48], [48], Lib.itoa tq, t] ++ [10]
/-- what FormatDone answers -/
def dnR (tq : Int) (t : List UInt8) (n : Nat) : Except Int (List UInt8) :=
 if fitsB tq = false then .error 4 else if 262144 < (repL (dnL tq t) n).length then .error 3 else .ok (repL (dnL tq t) n)
set_option maxRecDepth 100000 in
set_option maxHeartbeats 4000000 in
theorem FormatDone_big (n : Nat) (ao : Option Addr) (cap : Nat) (w : World) (h : 4096 < n) : Calls Tryz.prog 55 #[.slice ao n cap] w (FmEnd (.error 3) w) := by
 have HF := Lib.hid (show FmEnd (.error 3) w (.returned (.tuple #[.string ⟨#[]⟩, .int .i64 3])) w from ⟨Later.refl w, rfl⟩)
 have d1 : decide ((4096 : Int) < (n : Int)) = true := decide_eq_true (by omega)
 have d1' : (4096 : Int) < (n : Int) := by omega
 clear h
 go_enter Tryz.func55, Tryz.ntmps55
 go_wp2_with fail
 go_ret2
 exact HF.out
set_option maxRecDepth 100000 in
set_option maxHeartbeats 16000000 in
theorem FormatDone_is (tq : Int) (htq : inI tq) (val t : List UInt8) (htl : t.length ≤ 1000000) (n : Nat) (h1 : 1 ≤ n) (hn : n ≤ 4096) (hlen : n * (t.length + 40) ≤ 1000000000) (v : Value) (w : World) (hw : Laid w) (hv : DonesAt w v n (dnC tq val))
  (hsa : ∀ W, Laid W → Calls Tryz.prog 57 #[.agg (ansA 0 val nilS)] W (SAEnd t W)) : Calls Tryz.prog 55 #[v] w (FmEnd (dnR tq t n) w) := by
 obtain ⟨ao, cap, rfl, hX⟩ := id hv
 obtain ⟨X, off, rfl, -⟩ := hX.resolve_left (by omega)
 have HV := Lib.hid (show ∀ w', Later w w' → ∀ i, i < n → w'.rangeAt X (off + i * 21) (dnC tq val) from fun w' hl i hi => by
  obtain ⟨ao, cap, h1, h2⟩ := hv.later hl
  obtain ⟨X', off', h3, h4⟩ := h2.resolve_left (by omega)
  injection h1 with q1 q2 q3
  rw [h3] at q1
  injection q1 with q1
  injection q1 with q1 q4
  rw [q1, q4]
  exact h4 i hi)
 obtain ⟨res, hres⟩ : ∃ res, dnR tq t n = res := ⟨_, rfl⟩
 rw [hres]
 have HRES := Lib.hid hres
 have HW := Lib.hid hw
 have HSA := Lib.hid (fun W (h : Laid W) => show Calls Tryz.prog 57 #[.agg (ansA 0 val nilS)] W fun e w' => Later W w' ∧ e = .returned (.tuple #[.string ⟨t.toArray⟩, .int .i64 0]) from hsa W h)
 have d1 : decide ((4096 : Int) < (n : Int)) = false := decide_eq_false (by omega)
 have d1' : ¬ (4096 : Int) < (n : Int) := by omega
 have HFS0 := Lib.hid (show DfS w w.heap.size (repL (dnL tq t) 0) (w.alloc (.cells #[.pointer none, .slice none 0 0] 62)) from ⟨WB.fresh w, (Later.refl w).alloc _⟩)
 have hil := itoa_len tq htq.1 htq.2
 have hLl : (dnL tq t).length = 8 + (Lib.itoa tq).length + t.length := by simp [dnL, jn]; omega
 have hi0 : Lib.itoa 0 = [48] := by kernel_rfl
 obtain ⟨T, hT⟩ : ∃ T : ByteArray, T = ⟨t.toArray⟩ := ⟨_, rfl⟩
 obtain ⟨Z, hZ⟩ : ∃ Z : ByteArray, Z = ⟨#[48]⟩ := ⟨_, rfl⟩
 obtain ⟨T1, hT1⟩ : ∃ T1 : ByteArray, T1 = ⟨(Lib.itoa tq).toArray⟩ := ⟨_, rfl⟩
 obtain ⟨J, hJ⟩ : ∃ J : ByteArray, J = ⟨(jn [[48], [48], [48], Lib.itoa tq, t]).toArray⟩ := ⟨_, rfl⟩
 have hJl : J.size + 1 = (dnL tq t).length := by rw [hJ]; simp [ByteArray.size, dnL]
 rw [← hT] at HSA
 have HIZ := Lib.hid (fun V (hV : Laid V) => show Calls Tryz.prog 69 #[.int .i64 0] V fun e w' => e = .returned (.string Z) ∧ Later V w' by rw [hZ, ← hi0]; exact itoa_is 0 (by decide) (by decide) V hV)
 have HIT := Lib.hid (fun V (hV : Laid V) => show Calls Tryz.prog 69 #[.int .i64 tq] V fun e w' => e = .returned (.string T1) ∧ Later V w' by rw [hT1]; exact itoa_is tq htq.1 htq.2 V hV)
 have HJN := Lib.hid (fun (V : World) (B : Nat) (hB : V.heap[B]? = some (.cells #[.string Z, .string Z, .string Z, .string T1, .string T] 9 (0, 0))) => show Calls Tryz.prog 61 #[.slice (some ⟨B, 0, none⟩) 5 5] V fun e w' => e = .returned (.string J) ∧ Later V w' by
  rw [hJ]
  refine join_is V (.slice (some ⟨B, 0, none⟩) 5 5) [[48], [48], [48], Lib.itoa tq, t] ⟨B, 5, rfl, (by show 5 ≤ 5; decide), (Array.getElem?_eq_some_iff.1 hB).1, fun j hj => ?_⟩ (by simp [sumL]; omega)
  rw [Lib.cell_of_heap hB, hT1, hT, hZ]
  have : j = 0 ∨ j = 1 ∨ j = 2 ∨ j = 3 ∨ j = 4 := by simp at hj; omega
  rcases this with rfl | rfl | rfl | rfl | rfl <;> rfl)
 have hJb : ¬ 9223372036854775807 < J.size + 1 := by omega
 have HJ := Lib.hid (show (J ++ ⟨#[10]⟩ : ByteArray).data.toList = dnL tq t ∧ (J ++ ⟨#[10]⟩ : ByteArray).size = J.size + 1 ∧ J.size + 1 = (dnL tq t).length from ⟨by rw [hJ]; simp [dnL], by rw [ByteArray.size_append]; rfl, hJl⟩)
 have HINS := Lib.hid (fun (V : World) b (hb : fitsB tq = b) => show Calls Tryz.prog 68 #[.slice (some ⟨V.heap.size, 0, none⟩) 4 4] (V.alloc (.cells #[.int .i64 0, .int .i64 0, .int .i64 0, .int .i64 tq] 3)) fun e w' => e = .returned (.bool b) ∧ w' = V.alloc (.cells #[.int .i64 0, .int .i64 0, .int .i64 0, .int .i64 tq] 3) from
  inside_is V.heap.size [0, 0, 0, tq] 4 rfl (by omega) _ (fun i hi => by
   have : i = 0 ∨ i = 1 ∨ i = 2 ∨ i = 3 := by simp at hi; omega
   rw [World.cell?_alloc_new]
   rcases this with rfl | rfl | rfl | rfl <;> rfl) b (by rw [← hb]; simp [fitsB]))
 have HTL := Lib.hid (show ∀ k, k ≤ n → (repL (dnL tq t) k).length ≤ 1000000000 from fun k hk => by
  rw [repL_len, hLl]
  have h3 : k * (8 + (Lib.itoa tq).length + t.length) ≤ n * (t.length + 40) := Nat.mul_le_mul hk (by omega)
  omega)
 have HTT := Lib.hid htl
 have hDi : (Tryz.prog.info? 106).map (·.size) = some (dnC tq val).length := info106
 have hDo : (dnC tq val).toArray.all (·.oneCell') = true := by simp [dnC, ansA, strV, Value.oneCell']
 have hAi : (Tryz.prog.info? 81).map (·.size) = some (ansA 0 val nilS).toList.length := ansA_info
 obtain ⟨D, hD⟩ : ∃ D, dnC tq val = D := ⟨_, rfl⟩
 obtain ⟨AA, hAA⟩ : ∃ AA, (ansA 0 val nilS).toList = AA := ⟨_, rfl⟩
 have hAT : ansA 0 val nilS = AA.toArray := by rw [← hAA, Array.toArray_toList]
 have HDC := Lib.hid (show ∀ (W : World) (b : Nat), W.heap[b]? = some (.cells D.toArray 106 (0, 0)) → (W.cell? ⟨b, 0, none⟩ = some (.int .i64 0) ∧ W.cell? ⟨b, 1, none⟩ = some (.int .i64 0) ∧ W.cell? ⟨b, 2, none⟩ = some (.int .i64 0) ∧ W.cell? ⟨b, 3, none⟩ = some (.int .i64 tq)) ∧ W.rangeAt b 4 AA from fun W b h => by
  refine ⟨⟨?_, ?_, ?_, ?_⟩, fun j u hj => ?_⟩
  ·rw [Lib.cell_of_heap h, ← hD]; rfl
  ·rw [Lib.cell_of_heap h, ← hD]; rfl
  ·rw [Lib.cell_of_heap h, ← hD]; rfl
  ·rw [Lib.cell_of_heap h, ← hD]; rfl
  ·rw [Lib.cell_of_heap h, ← hD, List.getElem?_toArray]
   rw [← hAA] at hj
   have e : dnC tq val = [.int .i64 0, .int .i64 0, .int .i64 0, .int .i64 tq] ++ (ansA 0 val nilS).toList := rfl
   rw [e, List.getElem?_append_right (by simp)]
   rw [show 4 + j - [Value.int .i64 0, .int .i64 0, .int .i64 0, .int .i64 tq].length = j by simp]
   exact hj)
 rw [hD] at HV hDi hDo
 rw [hAA] at hAi
 rw [hAT] at HSA
 have hDz : (#[.int .i64 0, .int .i64 0, .int .i64 0, .int .i64 0, .int .i64 0, .string ⟨#[]⟩, .slice none 0 0, .int .i64 0, .int .u32 0, .int .u8 0, .int .u64 0, .int .u64 0, .int .u64 0, .int .u64 0, .int .u64 0, .int .u64 0, .int .u64 0, .int .u64 0, .int .u64 0, .int .u64 0, .complex .f64 0 0] : Array Value).size = D.toArray.size := by rw [← hD]; rfl
 have hDi2 : (Tryz.prog.info? 106).map (·.size) = some D.toArray.size := by rw [List.size_toArray]; exact hDi
 have HDI := Lib.hid (And.intro hDi (And.intro hDz (And.intro hDo (And.intro hDi2 hAi))))
 have HN1 := Lib.hid (And.intro h1 htq)
 clear hX hv hres hw hsa hil hLl hi0 hT hZ hT1 hJ hJl hDi hDo hAi hD hAA hAT hDz hDi2 h1 htq htl hlen
 go_enter Tryz.func55, Tryz.ntmps55
 go_wp2_with fail
 go_loopw [14] (fun i wr => ∃ k : Nat, k ≤ n ∧ i = .int .i64 k ∧ (k = 0 ∨ fitsB tq = true) ∧ DfS w w.heap.size (repL (dnL tq t) k) wr) (fun i _ => n - (RowKit.intOf i).toNat)
 case atStart => exact ⟨0, by omega, rfl, .inl rfl, HFS0.out⟩
 case round =>
  obtain ⟨k, hk, rfl, hkf, hfs⟩ := hrel
  rename World => wk
  have HFS := Lib.hid hfs
  have HKF := Lib.hid hkf
  clear hfs hkf HFS0
  by_cases hlt : k < n
  ·have d0 : decide ((k : Int) < (n : Int)) = true := decide_eq_true (by omega)
   have HR := Lib.hid (HV.out wk HFS.out.later k hlt)
   have HBOX := Lib.hid (show ∀ W : World, (W.alloc (.cells #[.int .i64 0, .int .i64 0, .int .i64 0, .int .i64 0, .int .i64 0, .string ⟨#[]⟩, .slice none 0 0, .int .i64 0, .int .u32 0, .int .u8 0, .int .u64 0, .int .u64 0, .int .u64 0, .int .u64 0, .int .u64 0, .int .u64 0, .int .u64 0, .int .u64 0, .int .u64 0, .int .u64 0, .complex .f64 0 0] 106)).heap[W.heap.size]? = some (.cells #[.int .i64 0, .int .i64 0, .int .i64 0, .int .i64 0, .int .i64 0, .string ⟨#[]⟩, .slice none 0 0, .int .i64 0, .int .u32 0, .int .u8 0, .int .u64 0, .int .u64 0, .int .u64 0, .int .u64 0, .int .u64 0, .int .u64 0, .int .u64 0, .int .u64 0, .int .u64 0, .int .u64 0, .complex .f64 0 0] 106 (0, 0)) from fun W => (MapKept.heap_alloc W _).1)
   go_upto_region 7 with (first | (refine wpList_load_mid rfl 106 (.tmp 16) rfl X (off + k * 21) rfl D _ HR.out Tryz.underlying106 rfl HDI.out.1 ?_) | (refine wpList_store_rowTo rfl 106 (.tmp 6) (.tmp 17) rfl rfl wk.heap.size D.toArray rfl rfl 106 _ (HBOX.out wk) HDI.out.2.2.2.1 HDI.out.2.1 HDI.out.2.2.1 ?_; rw [World.setRow_alloc_new]))
   obtain ⟨E, hE⟩ : ∃ E, wk.heap.size = E := ⟨_, rfl⟩
   obtain ⟨W1, hW1⟩ : ∃ W1, wk.alloc (.cells D.toArray 106) = W1 := ⟨_, rfl⟩
   have hl1 : Later wk W1 := by rw [← hW1]; exact (Later.refl wk).alloc _
   have hk1 : W1.heap[E]? = some (.cells D.toArray 106 (0, 0)) := by rw [← hW1, ← hE]; exact (MapKept.heap_alloc wk _).1
   have hNE : w.heap.size < E := by rw [← hE]; have := HFS.out.wb.1; omega
   have HE := Lib.hid (And.intro hk1 (And.intro (HFS.out.after hl1) hNE))
   have HQ := Lib.hid (HDC.out W1 E hk1).2
   rw [hE, hW1]
   clear hE hW1 hl1 hk1 hNE HR HBOX
   go_wp2_with (refine wpList_load_mid rfl 81 (.tmp 19) rfl E 4 rfl AA _ HQ.out Tryz.underlying81 rfl HDI.out.2.2.2.2 ?_)
   refine (HSA.out W1 (HW.out.later HE.out.2.1.later)).mono ?_
   rintro e w2 ⟨hl2, rfl⟩
   have hk2 := (hl2.block E (Array.getElem?_eq_some_iff.1 HE.out.1).1).trans HE.out.1
   have HE2 := Lib.hid (And.intro hk2 (And.intro (HE.out.2.1.after hl2) HE.out.2.2))
   obtain ⟨⟨c0, c1, c2, c3⟩, -⟩ := HDC.out w2 E hk2
   have hne : ∀ W : World, (binOp .neq 24 (.int .i64 0) (.int .i64 0)).run Tryz.prog W = .ok (.bool false) W := fun W => by rfl
   clear hl2 hk2 HE HQ
   cases hfb : fitsB tq with
   | false =>
    have HF := Lib.hid (fun (o : Obj) => show FmEnd res w (.returned (.tuple #[.string ⟨#[]⟩, .int .i64 4])) (w2.alloc o) by
     rw [← HRES.out, dnR, if_pos hfb]
     exact ⟨HE2.out.2.1.later.alloc o, rfl⟩)
    have HI1 := Lib.hid (HINS.out w2 false hfb)
    clear hfb
    go_wp2_with fail
    refine HI1.out.mono ?_
    rintro e w3 ⟨rfl, rfl⟩
    go_wp2_with fail
    go_ret2
    exact HF.out _
   | true =>
    have HI1 := Lib.hid (HINS.out w2 true hfb)
    have HFB := Lib.hid hfb
    clear hfb
    go_wp2_with fail
    refine HI1.out.mono ?_
    rintro e w3 ⟨rfl, hw3⟩
    have hl3 : Later w2 w3 := by rw [hw3]; exact (Later.refl w2).alloc _
    have hk3 := (hl3.block E (Array.getElem?_eq_some_iff.1 HE2.out.1).1).trans HE2.out.1
    have HE3 := Lib.hid (And.intro hk3 (And.intro (HE2.out.2.1.after hl3) HE2.out.2.2))
    clear hw3 hl3 hk3 c0 c1 c2 c3 HE2 HI1 HINS
    go_upto_region 10 with fail
    refine wp_region_iv mixedF (fun D' a' W' => ∃ x0 x1 x2 x3 x4 x5 x6 x7 x8 x9 x10 x11 x12 x13 x14 x15 x16, a' = ⟨#[.slice (some ⟨X, off, none⟩) n cap, undef, u2, u3, .pointer (some ⟨w.heap.size, 0, none⟩), undef, .pointer (some ⟨E, 0, none⟩), .string T, .int .i64 0, .slice (some ⟨X, off, none⟩) n cap, .int .i64 (n : Int), .bool false, .slice (some ⟨X, off, none⟩) n cap, .int .i64 (n : Int), .int .i64 (k : Int), .bool true, .pointer (some ⟨X, off + k * 21, none⟩), .agg D.toArray, .tuple #[.string T, .int .i64 0], .pointer (some ⟨E, 4, none⟩), .agg AA.toArray, .tuple #[.string T, .int .i64 0], .string T, .int .i64 0, .int .i64 0, .bool false, .bool false, .pointer (some ⟨E, 0, none⟩), .int .i64 0, .pointer (some ⟨E, 1, none⟩), .int .i64 0, .pointer (some ⟨E, 2, none⟩), .int .i64 0, .pointer (some ⟨E, 3, none⟩), .int .i64 tq, .slice (some ⟨w2.heap.size, 0, none⟩) 4 4, .bool true, .bool false, .bool false, x0, x1, x2, x3, x4, x5, x6, x7, x8, x9, x10, x11, x12, x13, x14, x15, x16, u56, undef, undef, undef], []⟩ ∧ (D' 16 = false → DfS w w.heap.size (repL (dnL tq t) k) W' ∧ W'.heap[E]? = some (.cells D.toArray 106 (0, 0)) ∧ Later w3 W') ∧ (D' 13 = true → D' 14 = false → ∃ B, x13 = .slice (some ⟨B, 0, none⟩) 5 5 ∧ W'.heap[B]? = some (.cells #[.string Z, .string Z, .string Z, .string T1, .string T] 9 (0, 0))) ∧ (D' 16 = true → DfS w w.heap.size (repL (dnL tq t) (k + 1)) W') ∧ (D' 0 = true → x0 = .pointer (some ⟨E, 0, none⟩)) ∧ (D' 1 = true → x1 = .int .i64 0) ∧ (D' 2 = true → x2 = .string Z) ∧ (D' 3 = true → x3 = .pointer (some ⟨E, 1, none⟩)) ∧ (D' 4 = true → x4 = .int .i64 0) ∧ (D' 5 = true → x5 = .string Z) ∧ (D' 6 = true → x6 = .pointer (some ⟨E, 2, none⟩)) ∧ (D' 7 = true → x7 = .int .i64 0) ∧ (D' 8 = true → x8 = .string Z) ∧ (D' 9 = true → x9 = .pointer (some ⟨E, 3, none⟩)) ∧ (D' 10 = true → x10 = .int .i64 tq) ∧ (D' 11 = true → x11 = .string T1) ∧ (D' 12 = true → x12 = .string T) ∧ (D' 14 = true → x14 = .string J) ∧ (D' 15 = true → x15 = .string (J ++ ⟨#[10]⟩))) (by kernel_rfl) ?_ ?_ ?_
    ·exact ⟨_, _, _, _, _, _, _, _, _, _, _, _, _, _, _, _, _, rfl, (fun _ => ⟨HE3.out.2.1.after (Later.refl w3).drew, ((Later.refl w3).drew.block E (Array.getElem?_eq_some_iff.1 HE3.out.1).1).trans HE3.out.1, (Later.refl w3).drew⟩), (fun h => by cases h), (fun h => by cases h), (fun h => by cases h), (fun h => by cases h), (fun h => by cases h), (fun h => by cases h), (fun h => by cases h), (fun h => by cases h), (fun h => by cases h), (fun h => by cases h), (fun h => by cases h), (fun h => by cases h), (fun h => by cases h), (fun h => by cases h), (fun h => by cases h), (fun h => by cases h), (fun h => by cases h)⟩
    ·intro i D' a' W' hi hDi hdep hcl hI
     obtain ⟨x0, x1, x2, x3, x4, x5, x6, x7, x8, x9, x10, x11, x12, x13, x14, x15, x16, rfl, gL, gB, gW, f0, f1, f2, f3, f4, f5, f6, f7, f8, f9, f10, f11, f12, f14, f15⟩ := hI
     have hi' : i = 0 ∨ i = 1 ∨ i = 2 ∨ i = 3 ∨ i = 4 ∨ i = 5 ∨ i = 6 ∨ i = 7 ∨ i = 8 ∨ i = 9 ∨ i = 10 ∨ i = 11 ∨ i = 12 ∨ i = 13 ∨ i = 14 ∨ i = 15 ∨ i = 16 := by
      have : i < 17 := hi
      omega
     rcases hi' with rfl | rfl | rfl | rfl | rfl | rfl | rfl | rfl | rfl | rfl | rfl | rfl | rfl | rfl | rfl | rfl | rfl
     ·have m1 := hcl.no hDi (k := 1) (by decide) (by kernel_rfl)
      have m2 := hcl.no m1 (k := 2) (by decide) (by kernel_rfl)
      have m13 := hcl.no m2 (k := 13) (by decide) (by kernel_rfl)
      have m14 := hcl.no m13 (k := 14) (by decide) (by kernel_rfl)
      have m15 := hcl.no m14 (k := 15) (by decide) (by kernel_rfl)
      have m16 := hcl.no m15 (k := 16) (by decide) (by kernel_rfl)
      refine wpOp_step rfl (fun K' hK' => ?_)
      rw [if_pos (by rfl)]
      go_simp
      exact hK' _ _ ⟨_, x1, x2, x3, x4, x5, x6, x7, x8, x9, x10, x11, x12, x13, x14, x15, x16, rfl, (fun _ => gL m16), (fun h => absurd (show D' 13 = true from h) (by rw [m13]; decide)), (fun h => absurd (show D' 16 = true from h) (by rw [m16]; decide)), (fun _ => rfl), f1, f2, f3, f4, f5, f6, f7, f8, f9, f10, f11, f12, f14, f15⟩
     ·have m2 := hcl.no hDi (k := 2) (by decide) (by kernel_rfl)
      have m13 := hcl.no m2 (k := 13) (by decide) (by kernel_rfl)
      have m14 := hcl.no m13 (k := 14) (by decide) (by kernel_rfl)
      have m15 := hcl.no m14 (k := 15) (by decide) (by kernel_rfl)
      have m16 := hcl.no m15 (k := 16) (by decide) (by kernel_rfl)
      have q0 := f0 (hdep 0 (by kernel_rfl))
      subst q0
      obtain ⟨⟨c0, c1, c2, c3⟩, -⟩ := HDC.out W' E (gL m16).2.1
      refine wpOp_step rfl (fun K' hK' => ?_)
      rw [if_pos (by rfl)]
      go_simp
      exact hK' _ _ ⟨_, _, x2, x3, x4, x5, x6, x7, x8, x9, x10, x11, x12, x13, x14, x15, x16, rfl, (fun _ => gL m16), (fun h => absurd (show D' 13 = true from h) (by rw [m13]; decide)), (fun h => absurd (show D' 16 = true from h) (by rw [m16]; decide)), (fun _ => rfl), (fun _ => rfl), f2, f3, f4, f5, f6, f7, f8, f9, f10, f11, f12, f14, f15⟩
     ·have m13 := hcl.no hDi (k := 13) (by decide) (by kernel_rfl)
      have m14 := hcl.no m13 (k := 14) (by decide) (by kernel_rfl)
      have m15 := hcl.no m14 (k := 15) (by decide) (by kernel_rfl)
      have m16 := hcl.no m15 (k := 16) (by decide) (by kernel_rfl)
      have q1 := f1 (hdep 1 (by kernel_rfl))
      subst q1
      refine wpOp_step rfl (fun K' hK' => ?_)
      rw [if_pos (by rfl)]
      go_simp
      refine (HIZ.out W' (HW.out.later (gL m16).1.later)).mono ?_
      rintro y8 w8 ⟨rfl, hl8⟩
      go_simp
      exact hK' _ _ ⟨x0, _, _, x3, x4, x5, x6, x7, x8, x9, x10, x11, x12, x13, x14, x15, x16, rfl, (fun _ => ⟨(gL m16).1.after hl8, (hl8.block E (Array.getElem?_eq_some_iff.1 (gL m16).2.1).1).trans (gL m16).2.1, (gL m16).2.2.trans hl8⟩), (fun h => absurd (show D' 13 = true from h) (by rw [m13]; decide)), (fun h => absurd (show D' 16 = true from h) (by rw [m16]; decide)), f0, (fun _ => rfl), (fun _ => rfl), f3, f4, f5, f6, f7, f8, f9, f10, f11, f12, f14, f15⟩
     ·have m4 := hcl.no hDi (k := 4) (by decide) (by kernel_rfl)
      have m5 := hcl.no m4 (k := 5) (by decide) (by kernel_rfl)
      have m13 := hcl.no m5 (k := 13) (by decide) (by kernel_rfl)
      have m14 := hcl.no m13 (k := 14) (by decide) (by kernel_rfl)
      have m15 := hcl.no m14 (k := 15) (by decide) (by kernel_rfl)
      have m16 := hcl.no m15 (k := 16) (by decide) (by kernel_rfl)
      refine wpOp_step rfl (fun K' hK' => ?_)
      rw [if_pos (by rfl)]
      go_simp
      exact hK' _ _ ⟨x0, x1, x2, _, x4, x5, x6, x7, x8, x9, x10, x11, x12, x13, x14, x15, x16, rfl, (fun _ => gL m16), (fun h => absurd (show D' 13 = true from h) (by rw [m13]; decide)), (fun h => absurd (show D' 16 = true from h) (by rw [m16]; decide)), f0, f1, f2, (fun _ => rfl), f4, f5, f6, f7, f8, f9, f10, f11, f12, f14, f15⟩
     ·have m5 := hcl.no hDi (k := 5) (by decide) (by kernel_rfl)
      have m13 := hcl.no m5 (k := 13) (by decide) (by kernel_rfl)
      have m14 := hcl.no m13 (k := 14) (by decide) (by kernel_rfl)
      have m15 := hcl.no m14 (k := 15) (by decide) (by kernel_rfl)
      have m16 := hcl.no m15 (k := 16) (by decide) (by kernel_rfl)
      have q3 := f3 (hdep 3 (by kernel_rfl))
      subst q3
      obtain ⟨⟨c0, c1, c2, c3⟩, -⟩ := HDC.out W' E (gL m16).2.1
      refine wpOp_step rfl (fun K' hK' => ?_)
      rw [if_pos (by rfl)]
      go_simp
      exact hK' _ _ ⟨x0, x1, x2, _, _, x5, x6, x7, x8, x9, x10, x11, x12, x13, x14, x15, x16, rfl, (fun _ => gL m16), (fun h => absurd (show D' 13 = true from h) (by rw [m13]; decide)), (fun h => absurd (show D' 16 = true from h) (by rw [m16]; decide)), f0, f1, f2, (fun _ => rfl), (fun _ => rfl), f5, f6, f7, f8, f9, f10, f11, f12, f14, f15⟩
     ·have m13 := hcl.no hDi (k := 13) (by decide) (by kernel_rfl)
      have m14 := hcl.no m13 (k := 14) (by decide) (by kernel_rfl)
      have m15 := hcl.no m14 (k := 15) (by decide) (by kernel_rfl)
      have m16 := hcl.no m15 (k := 16) (by decide) (by kernel_rfl)
      have q4 := f4 (hdep 4 (by kernel_rfl))
      subst q4
      refine wpOp_step rfl (fun K' hK' => ?_)
      rw [if_pos (by rfl)]
      go_simp
      refine (HIZ.out W' (HW.out.later (gL m16).1.later)).mono ?_
      rintro y8 w8 ⟨rfl, hl8⟩
      go_simp
      exact hK' _ _ ⟨x0, x1, x2, x3, _, _, x6, x7, x8, x9, x10, x11, x12, x13, x14, x15, x16, rfl, (fun _ => ⟨(gL m16).1.after hl8, (hl8.block E (Array.getElem?_eq_some_iff.1 (gL m16).2.1).1).trans (gL m16).2.1, (gL m16).2.2.trans hl8⟩), (fun h => absurd (show D' 13 = true from h) (by rw [m13]; decide)), (fun h => absurd (show D' 16 = true from h) (by rw [m16]; decide)), f0, f1, f2, f3, (fun _ => rfl), (fun _ => rfl), f6, f7, f8, f9, f10, f11, f12, f14, f15⟩
     ·have m7 := hcl.no hDi (k := 7) (by decide) (by kernel_rfl)
      have m8 := hcl.no m7 (k := 8) (by decide) (by kernel_rfl)
      have m13 := hcl.no m8 (k := 13) (by decide) (by kernel_rfl)
      have m14 := hcl.no m13 (k := 14) (by decide) (by kernel_rfl)
      have m15 := hcl.no m14 (k := 15) (by decide) (by kernel_rfl)
      have m16 := hcl.no m15 (k := 16) (by decide) (by kernel_rfl)
      refine wpOp_step rfl (fun K' hK' => ?_)
      rw [if_pos (by rfl)]
      go_simp
      exact hK' _ _ ⟨x0, x1, x2, x3, x4, x5, _, x7, x8, x9, x10, x11, x12, x13, x14, x15, x16, rfl, (fun _ => gL m16), (fun h => absurd (show D' 13 = true from h) (by rw [m13]; decide)), (fun h => absurd (show D' 16 = true from h) (by rw [m16]; decide)), f0, f1, f2, f3, f4, f5, (fun _ => rfl), f7, f8, f9, f10, f11, f12, f14, f15⟩
     ·have m8 := hcl.no hDi (k := 8) (by decide) (by kernel_rfl)
      have m13 := hcl.no m8 (k := 13) (by decide) (by kernel_rfl)
      have m14 := hcl.no m13 (k := 14) (by decide) (by kernel_rfl)
      have m15 := hcl.no m14 (k := 15) (by decide) (by kernel_rfl)
      have m16 := hcl.no m15 (k := 16) (by decide) (by kernel_rfl)
      have q6 := f6 (hdep 6 (by kernel_rfl))
      subst q6
      obtain ⟨⟨c0, c1, c2, c3⟩, -⟩ := HDC.out W' E (gL m16).2.1
      refine wpOp_step rfl (fun K' hK' => ?_)
      rw [if_pos (by rfl)]
      go_simp
      exact hK' _ _ ⟨x0, x1, x2, x3, x4, x5, _, _, x8, x9, x10, x11, x12, x13, x14, x15, x16, rfl, (fun _ => gL m16), (fun h => absurd (show D' 13 = true from h) (by rw [m13]; decide)), (fun h => absurd (show D' 16 = true from h) (by rw [m16]; decide)), f0, f1, f2, f3, f4, f5, (fun _ => rfl), (fun _ => rfl), f8, f9, f10, f11, f12, f14, f15⟩
     ·have m13 := hcl.no hDi (k := 13) (by decide) (by kernel_rfl)
      have m14 := hcl.no m13 (k := 14) (by decide) (by kernel_rfl)
      have m15 := hcl.no m14 (k := 15) (by decide) (by kernel_rfl)
      have m16 := hcl.no m15 (k := 16) (by decide) (by kernel_rfl)
      have q7 := f7 (hdep 7 (by kernel_rfl))
      subst q7
      refine wpOp_step rfl (fun K' hK' => ?_)
      rw [if_pos (by rfl)]
      go_simp
      refine (HIZ.out W' (HW.out.later (gL m16).1.later)).mono ?_
      rintro y8 w8 ⟨rfl, hl8⟩
      go_simp
      exact hK' _ _ ⟨x0, x1, x2, x3, x4, x5, x6, _, _, x9, x10, x11, x12, x13, x14, x15, x16, rfl, (fun _ => ⟨(gL m16).1.after hl8, (hl8.block E (Array.getElem?_eq_some_iff.1 (gL m16).2.1).1).trans (gL m16).2.1, (gL m16).2.2.trans hl8⟩), (fun h => absurd (show D' 13 = true from h) (by rw [m13]; decide)), (fun h => absurd (show D' 16 = true from h) (by rw [m16]; decide)), f0, f1, f2, f3, f4, f5, f6, (fun _ => rfl), (fun _ => rfl), f9, f10, f11, f12, f14, f15⟩
     ·have m10 := hcl.no hDi (k := 10) (by decide) (by kernel_rfl)
      have m11 := hcl.no m10 (k := 11) (by decide) (by kernel_rfl)
      have m13 := hcl.no m11 (k := 13) (by decide) (by kernel_rfl)
      have m14 := hcl.no m13 (k := 14) (by decide) (by kernel_rfl)
      have m15 := hcl.no m14 (k := 15) (by decide) (by kernel_rfl)
      have m16 := hcl.no m15 (k := 16) (by decide) (by kernel_rfl)
      refine wpOp_step rfl (fun K' hK' => ?_)
      rw [if_pos (by rfl)]
      go_simp
      exact hK' _ _ ⟨x0, x1, x2, x3, x4, x5, x6, x7, x8, _, x10, x11, x12, x13, x14, x15, x16, rfl, (fun _ => gL m16), (fun h => absurd (show D' 13 = true from h) (by rw [m13]; decide)), (fun h => absurd (show D' 16 = true from h) (by rw [m16]; decide)), f0, f1, f2, f3, f4, f5, f6, f7, f8, (fun _ => rfl), f10, f11, f12, f14, f15⟩
     ·have m11 := hcl.no hDi (k := 11) (by decide) (by kernel_rfl)
      have m13 := hcl.no m11 (k := 13) (by decide) (by kernel_rfl)
      have m14 := hcl.no m13 (k := 14) (by decide) (by kernel_rfl)
      have m15 := hcl.no m14 (k := 15) (by decide) (by kernel_rfl)
      have m16 := hcl.no m15 (k := 16) (by decide) (by kernel_rfl)
      have q9 := f9 (hdep 9 (by kernel_rfl))
      subst q9
      obtain ⟨⟨c0, c1, c2, c3⟩, -⟩ := HDC.out W' E (gL m16).2.1
      refine wpOp_step rfl (fun K' hK' => ?_)
      rw [if_pos (by rfl)]
      go_simp
      exact hK' _ _ ⟨x0, x1, x2, x3, x4, x5, x6, x7, x8, _, _, x11, x12, x13, x14, x15, x16, rfl, (fun _ => gL m16), (fun h => absurd (show D' 13 = true from h) (by rw [m13]; decide)), (fun h => absurd (show D' 16 = true from h) (by rw [m16]; decide)), f0, f1, f2, f3, f4, f5, f6, f7, f8, (fun _ => rfl), (fun _ => rfl), f11, f12, f14, f15⟩
     ·have m13 := hcl.no hDi (k := 13) (by decide) (by kernel_rfl)
      have m14 := hcl.no m13 (k := 14) (by decide) (by kernel_rfl)
      have m15 := hcl.no m14 (k := 15) (by decide) (by kernel_rfl)
      have m16 := hcl.no m15 (k := 16) (by decide) (by kernel_rfl)
      have q10 := f10 (hdep 10 (by kernel_rfl))
      subst q10
      refine wpOp_step rfl (fun K' hK' => ?_)
      rw [if_pos (by rfl)]
      go_simp
      refine (HIT.out W' (HW.out.later (gL m16).1.later)).mono ?_
      rintro y8 w8 ⟨rfl, hl8⟩
      go_simp
      exact hK' _ _ ⟨x0, x1, x2, x3, x4, x5, x6, x7, x8, x9, _, _, x12, x13, x14, x15, x16, rfl, (fun _ => ⟨(gL m16).1.after hl8, (hl8.block E (Array.getElem?_eq_some_iff.1 (gL m16).2.1).1).trans (gL m16).2.1, (gL m16).2.2.trans hl8⟩), (fun h => absurd (show D' 13 = true from h) (by rw [m13]; decide)), (fun h => absurd (show D' 16 = true from h) (by rw [m16]; decide)), f0, f1, f2, f3, f4, f5, f6, f7, f8, f9, (fun _ => rfl), (fun _ => rfl), f12, f14, f15⟩
     ·have m13 := hcl.no hDi (k := 13) (by decide) (by kernel_rfl)
      have m14 := hcl.no m13 (k := 14) (by decide) (by kernel_rfl)
      have m15 := hcl.no m14 (k := 15) (by decide) (by kernel_rfl)
      have m16 := hcl.no m15 (k := 16) (by decide) (by kernel_rfl)
      refine wpOp_step rfl (fun K' hK' => ?_)
      rw [if_pos (by rfl)]
      go_simp
      exact hK' _ _ ⟨x0, x1, x2, x3, x4, x5, x6, x7, x8, x9, x10, x11, _, x13, x14, x15, x16, rfl, (fun _ => gL m16), (fun h => absurd (show D' 13 = true from h) (by rw [m13]; decide)), (fun h => absurd (show D' 16 = true from h) (by rw [m16]; decide)), f0, f1, f2, f3, f4, f5, f6, f7, f8, f9, f10, f11, (fun _ => rfl), f14, f15⟩
     ·have m14 := hcl.no hDi (k := 14) (by decide) (by kernel_rfl)
      have m15 := hcl.no m14 (k := 15) (by decide) (by kernel_rfl)
      have m16 := hcl.no m15 (k := 16) (by decide) (by kernel_rfl)
      have q2 := f2 (hdep 2 (by kernel_rfl))
      subst q2
      have q5 := f5 (hdep 5 (by kernel_rfl))
      subst q5
      have q8 := f8 (hdep 8 (by kernel_rfl))
      subst q8
      have q11 := f11 (hdep 11 (by kernel_rfl))
      subst q11
      have q12 := f12 (hdep 12 (by kernel_rfl))
      subst q12
      refine wpOp_step rfl (fun K' hK' => ?_)
      rw [if_pos (by rfl)]
      go_simp
      exact hK' _ _ ⟨x0, x1, _, x3, x4, _, x6, x7, _, x9, x10, _, _, _, x14, x15, x16, rfl, (fun _ => ⟨(gL m16).1.after ((Later.refl W').alloc _), (((Later.refl W').alloc _).block E (Array.getElem?_eq_some_iff.1 (gL m16).2.1).1).trans (gL m16).2.1, (gL m16).2.2.trans ((Later.refl W').alloc _)⟩), (fun _ _ => ⟨W'.heap.size, rfl, (MapKept.heap_alloc W' _).1⟩), (fun h => absurd (show D' 16 = true from h) (by rw [m16]; decide)), f0, f1, (fun _ => rfl), f3, f4, (fun _ => rfl), f6, f7, (fun _ => rfl), f9, f10, (fun _ => rfl), (fun _ => rfl), f14, f15⟩
     ·have m15 := hcl.no hDi (k := 15) (by decide) (by kernel_rfl)
      have m16 := hcl.no m15 (k := 16) (by decide) (by kernel_rfl)
      obtain ⟨B, qB, hB⟩ := gB (hdep 13 (by kernel_rfl)) hDi
      subst qB
      refine wpOp_step rfl (fun K' hK' => ?_)
      rw [if_pos (by rfl)]
      go_simp
      refine (HJN.out W' B hB).mono ?_
      rintro y8 w8 ⟨rfl, hl8⟩
      go_simp
      exact hK' _ _ ⟨x0, x1, x2, x3, x4, x5, x6, x7, x8, x9, x10, x11, x12, _, _, x15, x16, rfl, (fun _ => ⟨(gL m16).1.after hl8, (hl8.block E (Array.getElem?_eq_some_iff.1 (gL m16).2.1).1).trans (gL m16).2.1, (gL m16).2.2.trans hl8⟩), (fun _ h => (updD_self h).elim), (fun h => absurd (show D' 16 = true from h) (by rw [m16]; decide)), f0, f1, f2, f3, f4, f5, f6, f7, f8, f9, f10, f11, f12, (fun _ => rfl), f15⟩
     ·have m16 := hcl.no hDi (k := 16) (by decide) (by kernel_rfl)
      have q14 := f14 (hdep 14 (by kernel_rfl))
      subst q14
      have p14 := hdep 14 (by kernel_rfl)
      have hJb2 := hJb
      refine wpOp_step rfl (fun K' hK' => ?_)
      rw [if_pos (by rfl)]
      go_simp
      exact hK' _ _ ⟨x0, x1, x2, x3, x4, x5, x6, x7, x8, x9, x10, x11, x12, x13, _, _, x16, rfl, (fun _ => gL m16), (fun _ h => absurd (show D' 14 = false from h) (by rw [p14]; decide)), (fun h => absurd (show D' 16 = true from h) (by rw [m16]; decide)), f0, f1, f2, f3, f4, f5, f6, f7, f8, f9, f10, f11, f12, (fun _ => rfl), (fun _ => rfl)⟩
     ·have q15 := f15 (hdep 15 (by kernel_rfl))
      subst q15
      have p15 := hdep 15 (by kernel_rfl)
      have p14 := hcl 15 (by decide) p15 14 (by kernel_rfl)
      have HWS := Lib.hid (writeString_is (w.heap.size + 1) w.heap.size (Lib.byteCells (repL (dnL tq t) k)) (J ++ ⟨#[10]⟩) W' (gL hDi).1.wb (by
       have h1 := HJ.out
       have h2 := HTL.out k hk
       have h4 := HTT.out
       have h5 := HTL.out (k + 1) (by omega)
       rw [repL_snoc, List.length_append] at h5
       have h3 : (Lib.byteCells (repL (dnL tq t) k)).length = (repL (dnL tq t) k).length := by simp [Lib.byteCells]
       rw [h3, h1.2.1, h1.2.2]
       omega))
      refine wpOp_step rfl (fun K' hK' => ?_)
      rw [if_pos (by rfl)]
      go_simp
      refine HWS.out.mono ?_
      rintro y8 w8 ⟨rfl, hwb8, hk8⟩
      have hnew : DfS w w.heap.size (repL (dnL tq t) (k + 1)) w8 := by rw [repL_snoc]; exact (gL hDi).1.write rfl (J ++ ⟨#[10]⟩) HJ.out.1 hwb8 hk8
      go_simp
      exact hK' _ _ ⟨x0, x1, x2, x3, x4, x5, x6, x7, x8, x9, x10, x11, x12, x13, _, _, _, rfl, (fun h => (updD_self h).elim), (fun _ h => absurd (show D' 14 = false from h) (by rw [p14]; decide)), (fun _ => hnew), f0, f1, f2, f3, f4, f5, f6, f7, f8, f9, f10, f11, f12, (fun _ => rfl), (fun _ => rfl)⟩
    ·rintro D' a' W' hD' ⟨x0, x1, x2, x3, x4, x5, x6, x7, x8, x9, x10, x11, x12, x13, x14, x15, x16, rfl, gL, gB, gW, f0, f1, f2, f3, f4, f5, f6, f7, f8, f9, f10, f11, f12, f14, f15⟩
     have HREL := Lib.hid (gW (hD' 16 (by decide)))
     clear gL gB gW hD' f0 f1 f2 f3 f4 f5 f6 f7 f8 f9 f10 f11 f12 f14 f15
     go_wp2_with fail
     go_roundw
     case rel => exact ⟨k + 1, by omega, by go_num, Or.inr HFB.out, HREL.out⟩
     case measure => simp [RowKit.intOf]; omega
  ·have d0 : decide ((k : Int) < (n : Int)) = false := decide_eq_false (by omega)
   have hkn : k = n := by omega
   subst hkn
   have HFT := Lib.hid (show fitsB tq = true from HKF.out.resolve_left (by have := HN1.out.1; omega))
   obtain ⟨L, hL⟩ : ∃ L, (repL (dnL tq t) k).length = L := ⟨_, rfl⟩
   have hB := Tryz.Builder_Len w.heap.size w.heap.size (Lib.byteCells (repL (dnL tq t) k)) wk HFS.out.wb.is
   rw [show (Lib.byteCells (repL (dnL tq t) k)).length = L by rw [← hL]; simp [Lib.byteCells]] at hB
   have HBL := Lib.hid hB
   have HL := Lib.hid hL
   have HST := Lib.hid (string_is w.heap.size (repL (dnL tq t) k) w wk HFS.out.wb HFS.out.later (Nat.le_refl _))
   clear hB hL
   by_cases hbig : 262144 < L
   ·have d3 : decide ((262144 : Int) < (L : Int)) = true := by simp; omega
    have d3' : (262144 : Int) < (L : Int) := by omega
    have HF := Lib.hid (show FmEnd res w (.returned (.tuple #[.string ⟨#[]⟩, .int .i64 3])) wk by
     rw [← HRES.out, dnR, if_neg (by rw [HFT.out]; simp), if_pos (by rw [HL.out]; exact hbig)]
     exact ⟨HFS.out.later, rfl⟩)
    go_wp2_with fail
    refine HBL.out.mono ?_
    rintro e w8 ⟨rfl, rfl⟩
    go_wp2_with fail
    go_ret2
    exact HF.out
   ·have d3 : decide ((262144 : Int) < (L : Int)) = false := by simp; omega
    have d3' : ¬ (262144 : Int) < (L : Int) := by omega
    have HF := Lib.hid (fun w' (hl : Later w w') => show FmEnd res w (.returned (.tuple #[strV (repL (dnL tq t) k), .int .i64 0])) w' by
     rw [← HRES.out, dnR, if_neg (by rw [HFT.out]; simp), if_neg (by rw [HL.out]; exact hbig)]
     exact ⟨hl, rfl⟩)
    obtain ⟨U, hU⟩ : ∃ U : ByteArray, U = ⟨(repL (dnL tq t) k).toArray⟩ := ⟨_, rfl⟩
    unfold strV at HF
    rw [← hU] at HST HF
    clear hU
    go_wp2_with fail
    refine HBL.out.mono ?_
    rintro e w8 ⟨rfl, rfl⟩
    go_wp2_with fail
    refine HST.out.mono ?_
    rintro e w9 ⟨rfl, hl9⟩
    have HF9 := Lib.hid (HF.out w9 hl9)
    clear hl9
    go_wp2_with fail
    go_ret2
    exact HF9.out
end Go.Proofs.YtkbedajbbakihaaGreatDoor
