/-
 Texts of this proof, put together (An, Ap): each part's first words say what it holds. Conditions: as each part says.
-/
import Derived.Test.YtkbedajbbakihaaGreatDoorQd
import Derived.Test.YtkbedajbbakihaaGreatDoorQe2
import Derived.Test.YtkbedajbbakihaaGreatDoorQg1
import Derived.Test.YtkbedajbbakihaaGreatDoorQb
/-
 The reader's answer, at the lines of errors, values, pairs and of success, walked. Conditions: the reader is one of the call's own.
-/
namespace Go.Proofs.YtkbedajbbakihaaGreatDoor
open Go.RowKit Go.Sort Go.Lib
set_option linter.unusedSimpArgs false
set_option linter.unusedVariables false

/-- an answer's cells: its error, its value, its pairs -/
def ansA (n : Int) (val : List UInt8) (P : Value) : Array Value := #[.int .i64 n, strV val, P, .int .i64 0, .int .u32 0, .int .u8 0, .int .u64 0, .int .u64 0, .int .u64 0, .int .u64 0, .int .u64 0, .int .u64 0, .int .u64 0, .int .u64 0, .int .u64 0, .int .u64 0, .complex .f64 0 0]
/-- the reader's row with an answer -/
def ansRow (v : Value) (n : Int) (val : List UInt8) (P : Value) : Array Value := #[v, .int .i64 0, .int .i64 0, .int .u32 0, .int .u8 0, strV [], strV [], strV [], .int .i64 0, .int .i64 0, .int .u64 0, .int .u64 0, .int .u8 0,
 .int .i64 n, strV val, P, .int .i64 0, .int .u32 0, .int .u8 0, .int .u64 0, .int .u64 0, .int .u64 0, .int .u64 0, .int .u64 0, .int .u64 0, .int .u64 0, .int .u64 0, .int .u64 0, .int .u64 0, .complex .f64 0 0]
theorem ansRow0 (v : Value) : reqRow req0 v = ansRow v 0 [] (.slice none 0 0) := rfl
def nOk : List UInt8 := [111, 107]
def nErr : List UInt8 := [101, 114, 114, 111, 114]
def nVal : List UInt8 := [118, 97, 108, 117, 101]
def nPrs : List UInt8 := [112, 97, 105, 114, 115]
abbrev nilS : Value := .slice none 0 0
theorem RdW.row_cell {b K : Nat} {R : Array Value} {ws : List (List UInt8)} {w : World} (h : RdW b K R ws w) (o : Nat) (u : Value) (hu : R[o]? = some u) : w.cell? ⟨b, o, none⟩ = some u ∧ w.frozen? ⟨b, o, none⟩ = false :=
 ⟨by rw [Lib.cell_of_heap h.2.2.2.1]; exact hu, Lib.frozen_of_heap h.2.2.2.1 o⟩
/-- how the reader's answer ends -/
def AEnd (b K : Nat) (n : Int) (val : List UInt8) (w : World) (e : Ending) (w' : World) : Prop := Only b w w' ∧ e = .returned (.tuple #[]) ∧ ∃ v, RdW b K (ansRow v n val nilS) [] w'
set_option maxRecDepth 100000 in
theorem answer_ok (b K : Nat) (v0 : Value) (w : World) (h : RdW b K (ansRow v0 0 [] nilS) [nOk] w) :
  Calls Tryz.prog 87 #[.pointer (some ⟨b, 0, none⟩)] w (AEnd b K 0 [] w) := by
 have HN := Lib.hid (show Calls Tryz.prog 45 #[.pointer (some ⟨b, 0, none⟩)] w fun e w' => e = .returned (.string ⟨#[111, 107]⟩) ∧ (Only b w w' ∧ ∃ v', RdW b K ((ansRow v0 0 [] nilS).setIfInBounds 0 v') [] w') from next_some b K _ nOk [] w h)
 clear h
 go_enter Tryz.func87, Tryz.ntmps87
 go_wp2_with fail
 refine HN.out.mono ?_
 rintro e w1 ⟨rfl, hk, v', hv'⟩
 have hv2 : RdW b K (ansRow v' 0 [] nilS) [] w1 := hv'
 obtain ⟨wb, off, cap, c0, -⟩ := hv2.cell0
 have HF := Lib.hid (show AEnd b K 0 [] w (.returned (.tuple #[])) w1 from ⟨hk, rfl, v', hv2⟩)
 clear hk hv' hv2
 go_wp2_with fail
 refine (must_true _).mono ?_
 rintro e w2 ⟨rfl, rfl⟩
 go_wp2_with fail
 go_end0
 exact HF.out
set_option maxRecDepth 100000 in
theorem answer_err (b K : Nat) (v0 : Value) (x : List UInt8) (n : Int) (hn : num x = some n) (h0 : n ≠ 0) (w : World) (h : RdW b K (ansRow v0 0 [] nilS) [nErr, x] w) :
  Calls Tryz.prog 87 #[.pointer (some ⟨b, 0, none⟩)] w (AEnd b K n [] w) := by
 have HN := Lib.hid (show Calls Tryz.prog 45 #[.pointer (some ⟨b, 0, none⟩)] w fun e w' => e = .returned (.string ⟨#[101, 114, 114, 111, 114]⟩) ∧ (Only b w w' ∧ ∃ v', RdW b K ((ansRow v0 0 [] nilS).setIfInBounds 0 v') [x] w') from next_some b K _ nErr [x] w h)
 have HNB := Lib.hid (fun v1 w1 (h1 : RdW b K (ansRow v1 0 [] nilS) [x] w1) => show Calls Tryz.prog 47 #[.pointer (some ⟨b, 0, none⟩)] w1 fun e w' => e = .returned (.int .i64 n) ∧ Only b w1 w' ∧ ∃ v', RdW b K ((ansRow v1 0 [] nilS).setIfInBounds 0 v') [] w' from
  (numb_is b K _ [x] w1 h1).mono fun e w' hq => by
   obtain ⟨k1, k2⟩ := hq
   have hf : firstW (fun x => (num x).map i64V) [x] = some (i64V n) := by show (num x).map i64V = _; rw [hn]; rfl
   rw [hf] at k2
   exact ⟨k2.1, k1, k2.2⟩)
 have hne : (n != 0) = true := by simpa using h0
 clear h hn h0
 go_enter Tryz.func87, Tryz.ntmps87
 go_wp2_with fail
 refine HN.out.mono ?_
 rintro e w1 ⟨rfl, hk, v', hv'⟩
 have hv2 : RdW b K (ansRow v' 0 [] nilS) [x] w1 := hv'
 have HK := Lib.hid hk
 have HV := Lib.hid hv2
 clear hk hv' hv2
 go_wp2_with fail
 refine (HNB.out v' w1 HV.out).mono ?_
 rintro e w2 ⟨rfl, hk2, v2, hv3⟩
 have hv4 : RdW b K (ansRow v2 0 [] nilS) [] w2 := hv3
 have c13 := hv4.row_cell 13 (.int .i64 0) rfl
 obtain ⟨c13, f13⟩ := c13
 have hst := hv4.store 13 (.int .i64 n) (by omega)
 have hv5 : RdW b K (ansRow v2 n [] nilS) [] (w2.setCell ⟨b, 13, none⟩ (.int .i64 n)) := hst.1
 obtain ⟨wb, off, cap, d0, -⟩ := hv5.cell0
 obtain ⟨d13, g13⟩ := hv5.row_cell 13 (.int .i64 n) rfl
 have HF := Lib.hid (show AEnd b K n [] w (.returned (.tuple #[])) (w2.setCell ⟨b, 13, none⟩ (.int .i64 n)) from ⟨(HK.out.trans hk2).trans hst.2, rfl, v2, hv5⟩)
 clear hk2 hv3 hv4 hst hv5 HN HNB
 go_wp2_with fail
 refine (must_true _).mono ?_
 rintro e w3 ⟨rfl, hw3⟩
 rw [hw3]
 clear hw3
 go_wp2_with fail
 refine (must_true _).mono ?_
 rintro e w3 ⟨rfl, hw3⟩
 rw [hw3]
 clear hw3
 go_wp2_with fail
 go_end0
 exact HF.out
set_option maxRecDepth 100000 in
theorem answer_err0 (b K : Nat) (v0 : Value) (x : List UInt8) (hn : num x = some 0) (w : World) (h : RdW b K (ansRow v0 0 [] nilS) [nErr, x] w) :
  Calls Tryz.prog 87 #[.pointer (some ⟨b, 0, none⟩)] w fun e w' => e = wrongE ∧ Only b w w' := by
 have HN := Lib.hid (show Calls Tryz.prog 45 #[.pointer (some ⟨b, 0, none⟩)] w fun e w' => e = .returned (.string ⟨#[101, 114, 114, 111, 114]⟩) ∧ (Only b w w' ∧ ∃ v', RdW b K ((ansRow v0 0 [] nilS).setIfInBounds 0 v') [x] w') from next_some b K _ nErr [x] w h)
 have HNB := Lib.hid (fun v1 w1 (h1 : RdW b K (ansRow v1 0 [] nilS) [x] w1) => show Calls Tryz.prog 47 #[.pointer (some ⟨b, 0, none⟩)] w1 fun e w' => e = .returned (.int .i64 0) ∧ Only b w1 w' ∧ ∃ v', RdW b K ((ansRow v1 0 [] nilS).setIfInBounds 0 v') [] w' from
  (numb_is b K _ [x] w1 h1).mono fun e w' hq => by
   obtain ⟨k1, k2⟩ := hq
   have hf : firstW (fun x => (num x).map i64V) [x] = some (i64V 0) := by show (num x).map i64V = _; rw [hn]; rfl
   rw [hf] at k2
   exact ⟨k2.1, k1, k2.2⟩)
 clear h hn
 go_enter Tryz.func87, Tryz.ntmps87
 go_wp2_with fail
 refine HN.out.mono ?_
 rintro e w1 ⟨rfl, hk, v', hv'⟩
 have hv2 : RdW b K (ansRow v' 0 [] nilS) [x] w1 := hv'
 have HK := Lib.hid hk
 have HV := Lib.hid hv2
 clear hk hv' hv2
 go_wp2_with fail
 refine (HNB.out v' w1 HV.out).mono ?_
 rintro e w2 ⟨rfl, hk2, v2, hv3⟩
 have hv4 : RdW b K (ansRow v2 0 [] nilS) [] w2 := hv3
 obtain ⟨c13, f13⟩ := hv4.row_cell 13 (.int .i64 0) rfl
 have hst := hv4.store 13 (.int .i64 0) (by omega)
 have hv5 : RdW b K (ansRow v2 0 [] nilS) [] (w2.setCell ⟨b, 13, none⟩ (.int .i64 0)) := hst.1
 obtain ⟨d13, g13⟩ := hv5.row_cell 13 (.int .i64 0) rfl
 have HF := Lib.hid (show Only b w (w2.setCell ⟨b, 13, none⟩ (.int .i64 0)) from (HK.out.trans hk2).trans hst.2)
 clear hk2 hv3 hv4 hst hv5 HN HNB
 go_wp2_with fail
 refine (must_false _).mono ?_
 rintro e w3 ⟨rfl, hw3⟩
 rw [hw3]
 clear hw3
 go_wp2_with fail
 exact ⟨rfl, rfl, HF.out⟩
set_option maxRecDepth 100000 in
theorem answer_val (b K : Nat) (v0 : Value) (x val : List UInt8) (hx : unword x = some val) (h0 : val ≠ []) (w : World) (h : RdW b K (ansRow v0 0 [] nilS) [nVal, x] w) :
  Calls Tryz.prog 87 #[.pointer (some ⟨b, 0, none⟩)] w (AEnd b K 0 val w) := by
 have HN := Lib.hid (show Calls Tryz.prog 45 #[.pointer (some ⟨b, 0, none⟩)] w fun e w' => e = .returned (.string ⟨#[118, 97, 108, 117, 101]⟩) ∧ (Only b w w' ∧ ∃ v', RdW b K ((ansRow v0 0 [] nilS).setIfInBounds 0 v') [x] w') from next_some b K _ nVal [x] w h)
 obtain ⟨T, hT⟩ : ∃ T : ByteArray, T = ⟨val.toArray⟩ := ⟨_, rfl⟩
 have HNB := Lib.hid (fun v1 w1 (h1 : RdW b K (ansRow v1 0 [] nilS) [x] w1) => show Calls Tryz.prog 130 #[.pointer (some ⟨b, 0, none⟩)] w1 fun e w' => e = .returned (.string T) ∧ Only b w1 w' ∧ ∃ v', RdW b K ((ansRow v1 0 [] nilS).setIfInBounds 0 v') [] w' from
  (bytes_is b K _ [x] w1 h1).mono fun e w' hq => by
   obtain ⟨k1, k2⟩ := hq
   have hf : firstW (fun x => (unword x).map strV) [x] = some (strV val) := by show (unword x).map strV = _; rw [hx]; rfl
   rw [hf] at k2
   exact ⟨by rw [hT]; exact k2.1, k1, k2.2⟩)
 have hTn : T.toList ≠ [] := by rw [hT, ByteArray.toList_mk]; exact h0
 have hTe : T.toList.isEmpty = false := by rw [hT, ByteArray.toList_mk]; cases val with | nil => exact absurd rfl h0 | cons => rfl
 have HT := Lib.hid hT
 clear h hx h0 hTn hT
 go_enter Tryz.func87, Tryz.ntmps87
 go_wp2_with fail
 refine HN.out.mono ?_
 rintro e w1 ⟨rfl, hk, v', hv'⟩
 have hv2 : RdW b K (ansRow v' 0 [] nilS) [x] w1 := hv'
 have HK := Lib.hid hk
 have HV := Lib.hid hv2
 clear hk hv' hv2
 go_wp2_with fail
 refine (HNB.out v' w1 HV.out).mono ?_
 rintro e w2 ⟨rfl, hk2, v2, hv3⟩
 have hv4 : RdW b K (ansRow v2 0 [] nilS) [] w2 := hv3
 obtain ⟨c14, f14⟩ := hv4.row_cell 14 (.string ⟨#[]⟩) rfl
 have hst := hv4.store 14 (.string T) (by omega)
 have hv5 : RdW b K (ansRow v2 0 val nilS) [] (w2.setCell ⟨b, 14, none⟩ (.string T)) := by
  have h9 := hst.1
  rw [HT.out] at h9 ⊢
  exact h9
 obtain ⟨wb, off, cap, d0, -⟩ := hv5.cell0
 obtain ⟨d14, g14⟩ := hv5.row_cell 14 (.string T) (by rw [HT.out]; rfl)
 have HF := Lib.hid (show AEnd b K 0 val w (.returned (.tuple #[])) (w2.setCell ⟨b, 14, none⟩ (.string T)) from ⟨(HK.out.trans hk2).trans hst.2, rfl, v2, hv5⟩)
 clear hk2 hv3 hv4 hst hv5 HN HNB
 go_wp2_with fail
 refine (must_true _).mono ?_
 rintro e w3 ⟨rfl, hw3⟩
 rw [hw3]
 clear hw3
 go_wp2_with fail
 refine (must_true _).mono ?_
 rintro e w3 ⟨rfl, hw3⟩
 rw [hw3]
 clear hw3
 go_wp2_with fail
 go_end0
 exact HF.out
end Go.Proofs.YtkbedajbbakihaaGreatDoor

/-
 The reader's answer at a line of pairs, walked. Conditions: the reader is one of the call's own; at most 1000 pairs.
-/
namespace Go.Proofs.YtkbedajbbakihaaGreatDoor
open Go.RowKit Go.Sort Go.Lib
set_option linter.unusedSimpArgs false
set_option linter.unusedVariables false

theorem addr_add1 (b j : Nat) : (⟨b, 0, none⟩ : Addr).add j = ⟨b, j, none⟩ := by
 unfold Addr.add; split <;> simp_all
/-- pairs as cells -/
def prC (ps : List (List UInt8 × List UInt8)) : List Value := ps.flatMap fun p => [strV p.1, strV p.2]
theorem prC_snoc (ps : List (List UInt8 × List UInt8)) (p : List UInt8 × List UInt8) : prC (ps ++ [p]) = prC ps ++ [strV p.1, strV p.2] := by simp [prC]
/-- pairs as words -/
def prW (ps : List (List UInt8 × List UInt8)) : List (List UInt8) := ps.flatMap fun p => [word p.1, word p.2]
theorem prW_len (ps : List (List UInt8 × List UInt8)) : (prW ps).length = 2 * ps.length := by
 induction ps with
 | nil => rfl
 | cons p t ih => simp only [prW, List.flatMap_cons, List.length_append, List.length_cons, List.length_nil] at ih ⊢; omega
theorem info112 : (Tryz.prog.info? 112).map (fun i => (i.zero, i.size, i.bytes)) = some (some (.agg #[.string ⟨#[]⟩, .string ⟨#[]⟩]), 2, 32) := by kernel_rfl
theorem ansRow_set (v v' : Value) (n : Int) (val : List UInt8) (P : Value) : (ansRow v n val P).setIfInBounds 0 v' = ansRow v' n val P := rfl
theorem ansRow_set15 (v : Value) (n : Int) (val : List UInt8) (P P' : Value) : (ansRow v n val P).setIfInBounds 15 P' = ansRow v n val P' := rfl
/-- taking a word off the reader -/
theorem bytes_word (b K : Nat) (v : Value) (n : Int) (val : List UInt8) (P : Value) (x : List UInt8) (ws : List (List UInt8)) (w : World) (h : RdW b K (ansRow v n val P) (word x :: ws) w) :
  Calls Tryz.prog 130 #[.pointer (some ⟨b, 0, none⟩)] w fun e w' => e = .returned (strV x) ∧ Only b w w' ∧ ∃ v', RdW b K (ansRow v' n val P) ws w' :=
 (bytes_is b K _ _ w h).mono fun e w' hq => by
  obtain ⟨k1, k2⟩ := hq
  have hf : firstW (fun x => (unword x).map strV) (word x :: ws) = some (strV x) := by show (unword (word x)).map strV = _; rw [unword_word]; rfl
  rw [hf] at k2
  exact ⟨k2.1, k1, k2.2⟩
/-- how the reader's answer ends at pairs -/
def APEnd (b K : Nat) (ps : List (List UInt8 × List UInt8)) (w : World) (e : Ending) (w' : World) : Prop := Only b w w' ∧ e = .returned (.tuple #[]) ∧ ∃ v P, RdW b K (ansRow v 0 [] P) [] w' ∧ w'.ownsRow w.heap.size 112 2 P ps.length (prC ps)
/-- what the loop keeps -/
def AL (b K : Nat) (w : World) (ps : List (List UInt8 × List UInt8)) (k : Nat) (v P : Value) (wr : World) : Prop :=
 RdW b K (ansRow v 0 [] P) (prW (ps.drop k)) wr ∧ Only b w wr ∧ wr.ownsRow w.heap.size 112 2 P k (prC (ps.take k))
set_option maxRecDepth 100000 in
set_option maxHeartbeats 16000000 in
theorem answer_pairs (b K : Nat) (v0 : Value) (ps : List (List UInt8 × List UInt8)) (hne : ps ≠ []) (hlen : ps.length ≤ 1000) (w : World) (h : RdW b K (ansRow v0 0 [] nilS) (nPrs :: prW ps) w) :
  Calls Tryz.prog 87 #[.pointer (some ⟨b, 0, none⟩)] w (APEnd b K ps w) := by
 have HN := Lib.hid (show Calls Tryz.prog 45 #[.pointer (some ⟨b, 0, none⟩)] w fun e w' => e = .returned (.string ⟨#[112, 97, 105, 114, 115]⟩) ∧ (Only b w w' ∧ ∃ v', RdW b K ((ansRow v0 0 [] nilS).setIfInBounds 0 v') (prW ps) w') from next_some b K _ nPrs (prW ps) w h)
 have hKw := h.2.1
 have HKW := Lib.hid (And.intro hKw.1 (And.intro hKw.2 h.1.1))
 obtain ⟨n, hn⟩ : ∃ n, ps.length = n := ⟨_, rfl⟩
 have hn0 : 0 < n := by rw [← hn]; exact List.length_pos_iff.2 hne
 rw [hn] at hlen
 have HNN := Lib.hid hn
 obtain ⟨i0, hi0, hz0, hz1, hz2⟩ := info_parts info112
 have HI := Lib.hid (And.intro hi0 (And.intro hz0 (And.intro hz1 hz2)))
 clear h hne hn hKw hi0 hz0 hz1 hz2
 go_enter Tryz.func87, Tryz.ntmps87
 go_wp2_with fail
 refine HN.out.mono ?_
 rintro e w1 ⟨rfl, hk, v', hv'⟩
 have HL0 := Lib.hid (show AL b K w ps 0 v' nilS w1 from ⟨by simpa [ansRow_set] using hv', hk, by simpa [prC] using World.ownsRow_nil w1 w.heap.size 112 2⟩)
 clear hk hv' HN
 go_wp2_with fail
 go_loopw [] (fun wr => ∃ (k : Nat) (v P : Value), k ≤ n ∧ AL b K w ps k v P wr) (fun wr => leftW b wr)
 case atStart => exact ⟨0, v', nilS, by omega, HL0.out⟩
 case round =>
  obtain ⟨k, v, P, hk, hal⟩ := hrel
  rename World => wk
  have hlw := leftW_rd hal.1
  have HLW := Lib.hid (show leftW b wk = 2 * (n - k) by rw [hlw, prW_len, List.length_drop, HNN.out])
  have HAL := Lib.hid hal
  obtain ⟨ao, cp, rfl⟩ : ∃ ao cp, P = .slice ao k cp := by
   rcases hal.2.2.2 with ⟨rfl, h0⟩ | ⟨g9, cap9, cur9, rfl, _⟩
   ·exact ⟨none, 0, by rw [h0]⟩
   ·exact ⟨_, _, rfl⟩
  obtain ⟨c15, f15⟩ := hal.1.row_cell 15 (.slice ao k cp) rfl
  obtain ⟨wb, off, cap, c0, hwl⟩ := hal.1.cell0
  rw [prW_len, List.length_drop, HNN.out] at c0
  obtain ⟨m, hm⟩ : ∃ m, 2 * (n - k) = m := ⟨_, rfl⟩
  rw [hm] at c0
  have HM := Lib.hid hm
  clear hal hlw hwl HL0
  by_cases hlt : k < n
  ·have hm0 : 0 < m := by omega
   have hm1 : (0 : Int) < (m : Int) := by omega
   have hm2 : decide ((0 : Int) < (m : Int)) = true := by simpa using hm0
   clear hm
   by_cases hk0 : k = 0
   ·subst hk0
    go_upto_region 12 with fail
    obtain ⟨p, hp⟩ : ∃ p, ps[0]? = some p := ⟨_, List.getElem?_eq_getElem (by have := HNN.out; omega)⟩
    have hdr : prW (ps.drop 0) = word p.1 :: word p.2 :: prW (ps.drop (0 + 1)) := by
     rw [List.drop_eq_getElem_cons (by have := HNN.out; omega)]
     have h9 : ps[0]'(by have := HNN.out; omega) = p := by have := hp; rw [List.getElem?_eq_getElem (by have := HNN.out; omega)] at this; exact Option.some.inj this
     rw [h9]; rfl
    have HT := Lib.hid (show prC (ps.take (0 + 1)) = prC (ps.take 0) ++ [strV p.1, strV p.2] by rw [List.take_add_one, hp]; exact prC_snoc _ _)
    obtain ⟨rest, hrest⟩ : ∃ rest, prW (ps.drop (0 + 1)) = rest := ⟨_, rfl⟩
    have HRS := Lib.hid hrest
    have hal0 := HAL.out
    unfold AL at hal0
    rw [hdr, hrest] at hal0
    have HA0 := Lib.hid hal0
    obtain ⟨S1, hS1⟩ : ∃ S1 : ByteArray, S1 = ⟨p.1.toArray⟩ := ⟨_, rfl⟩
    obtain ⟨S2, hS2⟩ : ∃ S2 : ByteArray, S2 = ⟨p.2.toArray⟩ := ⟨_, rfl⟩
    have HSS := Lib.hid (show strV p.1 = .string S1 ∧ strV p.2 = .string S2 from ⟨by rw [hS1]; rfl, by rw [hS2]; rfl⟩)
    have HB1 := Lib.hid (fun v (P : Value) ws W (h : RdW b K (ansRow v 0 [] P) (word p.1 :: ws) W) => show Calls Tryz.prog 130 #[.pointer (some ⟨b, 0, none⟩)] W fun e w' => e = .returned (.string S1) ∧ Only b W w' ∧ ∃ v', RdW b K (ansRow v' 0 [] P) ws w' by rw [← HSS.out.1]; exact bytes_word b K v 0 [] P p.1 ws W h)
    have HB2 := Lib.hid (fun v (P : Value) ws W (h : RdW b K (ansRow v 0 [] P) (word p.2 :: ws) W) => show Calls Tryz.prog 130 #[.pointer (some ⟨b, 0, none⟩)] W fun e w' => e = .returned (.string S2) ∧ Only b W w' ∧ ∃ v', RdW b K (ansRow v' 0 [] P) ws w' by rw [← HSS.out.2]; exact bytes_word b K v 0 [] P p.2 ws W h)
    clear hp hdr hrest hal0 hS1 hS2 c15 f15 c0
    have hownl : ∀ {W W' : World}, Only b W W' → W.ownsRow w.heap.size 112 2 (.slice ao 0 cp) 0 (prC (ps.take 0)) → W'.ownsRow w.heap.size 112 2 (.slice ao 0 cp) 0 (prC (ps.take 0)) := fun {W W'} hk h => h.kept (row := some b) ⟨hk.os, hk.tape, hk.output, hk.size, fun i hi hne => hk.block i hi (fun e => hne (by rw [e]))⟩ (.inr (fun e => by have := (h.lt b e).1; have := HKW.out; omega))
    have HOL := Lib.hid (fun (W W' : World) hk h => hownl (W := W) (W' := W') hk h)
    clear hownl
    refine wp_region_iv rfl (fun D' a' W' => ∃ x55 x56 x57 x58 x59 x60 x61 x62 x63 x64 x65 x66 x67 x68, a' = ⟨#[.pointer (some ⟨b, 0, none⟩), undef, .pointer (some ⟨b, 13, none⟩), undef, undef, .pointer (some ⟨b, 0, none⟩), .pointer (some ⟨b, 0, none⟩), .pointer (some ⟨b, 13, none⟩), .pointer (some ⟨b, 0, none⟩), .string ⟨#[112, 97, 105, 114, 115]⟩, undef, .bool false, .bool false, undef, undef, undef, undef, undef, undef, undef, undef, undef, undef, undef, .bool false, .bool false, .bool false, .bool false, undef, undef, undef, undef, undef, undef, undef, undef, undef, undef, undef, .bool true, .bool true, .pointer (some ⟨b, 13, none⟩), .pointer (some ⟨b, 13, none⟩), .pointer (some ⟨b, 15, none⟩), .slice ao 0 cp, .int .i64 0, .bool true, .bool true, undef, undef, undef, undef, undef, undef, .bool true, x55, x56, x57, x58, x59, x60, x61, x62, x63, x64, x65, x66, x67, x68, undef, undef, undef, undef, undef, undef, undef, undef, undef, undef, undef, undef, undef, undef, undef, undef, undef, undef, undef, undef, undef, undef, undef, undef, undef, undef, undef, undef, undef, undef, undef, undef, undef, undef, undef, undef, undef, undef, undef, undef], []⟩ ∧ (D' 6 = false → ∃ v, RdW b K (ansRow v 0 [] (.slice ao 0 cp)) (word p.1 :: word p.2 :: rest) W' ∧ Only b w W' ∧ W'.ownsRow w.heap.size 112 2 (.slice ao 0 cp) 0 (prC (ps.take 0))) ∧
     (D' 6 = true → D' 8 = false → ∃ v, RdW b K (ansRow v 0 [] (.slice ao 0 cp)) (word p.2 :: rest) W' ∧ Only b w W' ∧ W'.ownsRow w.heap.size 112 2 (.slice ao 0 cp) 0 (prC (ps.take 0))) ∧
     (D' 8 = true → D' 11 = false → ∃ v, RdW b K (ansRow v 0 [] (.slice ao 0 cp)) rest W' ∧ Only b w W' ∧ W'.ownsRow w.heap.size 112 2 (.slice ao 0 cp) 0 (prC (ps.take 0))) ∧
     (D' 11 = true → D' 14 = false → ∃ v a3 n3 c3, x66 = .slice a3 n3 c3 ∧ RdW b K (ansRow v 0 [] (.slice ao 0 cp)) rest W' ∧ Only b w W' ∧ W'.ownsRow w.heap.size 112 2 x66 (0 + 1) (prC (ps.take (0 + 1)))) ∧
     (D' 14 = true → ∃ v P', RdW b K (ansRow v 0 [] P') rest W' ∧ Only b w W' ∧ W'.ownsRow w.heap.size 112 2 P' (0 + 1) (prC (ps.take (0 + 1)))) ∧
     (D' 0 = true → x55 = .pointer (some ⟨b, 13, none⟩)) ∧ (D' 1 = true → x56 = .pointer (some ⟨b, 13, none⟩)) ∧ (D' 2 = true → x57 = .pointer (some ⟨b, 13, none⟩)) ∧ (D' 3 = true → x58 = .pointer (some ⟨b, 15, none⟩)) ∧ (D' 4 = true → x59 = .slice ao 0 cp) ∧ (D' 5 = true → x60 = .pointer (some ⟨b, 0, none⟩)) ∧ (D' 6 = true → x61 = .string S1) ∧ (D' 7 = true → x62 = .pointer (some ⟨b, 0, none⟩)) ∧ (D' 8 = true → x63 = .string S2) ∧ (D' 9 = true → x64 = .agg #[.string S1, .string S2]) ∧
     (D' 10 = true → D' 11 = false → ∃ Z, x65 = .slice (some ⟨Z, 0, none⟩) 1 1 ∧ W'.heap[Z]? = some (.cells #[.string S1, .string S2] 112 (0, 0)) ∧ b < Z) ∧ (D' 12 = true → x67 = .pointer (some ⟨b, 13, none⟩)) ∧ (D' 13 = true → x68 = .pointer (some ⟨b, 15, none⟩))) (by kernel_rfl) ?_ ?_ ?_
    ·exact ⟨u55, u56, u57, u58, u59, u60, u61, u62, u63, u64, u65, u66, u67, u68, rfl, (fun _ => (HA0.out.1.later (Later.refl wk).drew |> fun h => ⟨v, h, HA0.out.2.1.trans (Only.of_later (Later.refl wk).drew), HA0.out.2.2⟩)), (fun h => by cases h), (fun h => by cases h), (fun h => by cases h), (fun h => by cases h), (fun h => by cases h), (fun h => by cases h), (fun h => by cases h), (fun h => by cases h), (fun h => by cases h), (fun h => by cases h), (fun h => by cases h), (fun h => by cases h), (fun h => by cases h), (fun h => by cases h), (fun h => by cases h), (fun h => by cases h), (fun h => by cases h)⟩
    ·intro i D' a' W' hi hDi hdep hcl hI
     obtain ⟨x55, x56, x57, x58, x59, x60, x61, x62, x63, x64, x65, x66, x67, x68, rfl, gA, gB, gC, gD, gE, f0, f1, f2, f3, f4, f5, f6, f7, f8, f9, f10, f12, f13⟩ := hI
     have hi' : i = 0 ∨ i = 1 ∨ i = 2 ∨ i = 3 ∨ i = 4 ∨ i = 5 ∨ i = 6 ∨ i = 7 ∨ i = 8 ∨ i = 9 ∨ i = 10 ∨ i = 11 ∨ i = 12 ∨ i = 13 ∨ i = 14 := by
      have : i < 15 := hi
      omega
     rcases hi' with rfl | rfl | rfl | rfl | rfl | rfl | rfl | rfl | rfl | rfl | rfl | rfl | rfl | rfl | rfl
     ·skip
      refine wpOp_step rfl (fun K' hK' => ?_)
      rw [if_pos (by rfl)]
      go_simp
      exact hK' _ _ ⟨_, x56, x57, x58, x59, x60, x61, x62, x63, x64, x65, x66, x67, x68, rfl, gA, gB, gC, gD, gE, (fun _ => rfl), f1, f2, f3, f4, f5, f6, f7, f8, f9, f10, f12, f13⟩
     ·skip
      refine wpOp_step rfl (fun K' hK' => ?_)
      rw [if_pos (by rfl)]
      go_simp
      exact hK' _ _ ⟨x55, _, x57, x58, x59, x60, x61, x62, x63, x64, x65, x66, x67, x68, rfl, gA, gB, gC, gD, gE, f0, (fun _ => rfl), f2, f3, f4, f5, f6, f7, f8, f9, f10, f12, f13⟩
     ·have q := f1 (hdep 1 (by kernel_rfl))
      subst q
      refine wpOp_step rfl (fun K' hK' => ?_)
      rw [if_pos (by rfl)]
      go_simp
      exact hK' _ _ ⟨x55, _, _, x58, x59, x60, x61, x62, x63, x64, x65, x66, x67, x68, rfl, gA, gB, gC, gD, gE, f0, (fun _ => rfl), (fun _ => rfl), f3, f4, f5, f6, f7, f8, f9, f10, f12, f13⟩
     ·have q := f2 (hdep 2 (by kernel_rfl))
      subst q
      refine wpOp_step rfl (fun K' hK' => ?_)
      rw [if_pos (by rfl)]
      go_simp
      exact hK' _ _ ⟨x55, x56, _, _, x59, x60, x61, x62, x63, x64, x65, x66, x67, x68, rfl, gA, gB, gC, gD, gE, f0, f1, (fun _ => rfl), (fun _ => rfl), f4, f5, f6, f7, f8, f9, f10, f12, f13⟩
     ·have q := f3 (hdep 3 (by kernel_rfl))
      subst q
      have h11 := hcl.no hDi (k := 11) (by decide) (by kernel_rfl)
      have hc : W'.cell? ⟨b, 15, none⟩ = some (.slice ao 0 cp) := by
       cases h6 : D' 6 with
       | false => obtain ⟨v, h1, -, -⟩ := gA h6; exact (h1.row_cell 15 _ rfl).1
       | true =>
        cases h8 : D' 8 with
        | false => obtain ⟨v, h1, -, -⟩ := gB h6 h8; exact (h1.row_cell 15 _ rfl).1
        | true => obtain ⟨v, h1, -, -⟩ := gC h8 h11; exact (h1.row_cell 15 _ rfl).1
      refine wpOp_step rfl (fun K' hK' => ?_)
      rw [if_pos (by rfl)]
      go_simp
      exact hK' _ _ ⟨x55, x56, x57, _, _, x60, x61, x62, x63, x64, x65, x66, x67, x68, rfl, gA, gB, gC, gD, gE, f0, f1, f2, (fun _ => rfl), (fun _ => rfl), f5, f6, f7, f8, f9, f10, f12, f13⟩
     ·skip
      refine wpOp_step rfl (fun K' hK' => ?_)
      rw [if_pos (by rfl)]
      go_simp
      exact hK' _ _ ⟨x55, x56, x57, x58, x59, _, x61, x62, x63, x64, x65, x66, x67, x68, rfl, gA, gB, gC, gD, gE, f0, f1, f2, f3, f4, (fun _ => rfl), f6, f7, f8, f9, f10, f12, f13⟩
     ·have q := f5 (hdep 5 (by kernel_rfl))
      subst q
      have h8 := hcl.no hDi (k := 8) (by decide) (by kernel_rfl)
      have h9 := hcl.no h8 (k := 9) (by decide) (by kernel_rfl)
      have h10 := hcl.no h9 (k := 10) (by decide) (by kernel_rfl)
      have h11 := hcl.no h10 (k := 11) (by decide) (by kernel_rfl)
      have h14 := hcl.no h11 (k := 14) (by decide) (by kernel_rfl)
      obtain ⟨v, k1, k2, k3⟩ := gA hDi
      have HK1 := Lib.hid (And.intro k1 (And.intro k2 k3))
      clear k1 k2 k3
      refine wpOp_step rfl (fun K' hK' => ?_)
      rw [if_pos (by rfl)]
      go_simp
      refine (HB1.out _ _ _ _ HK1.out.1).mono ?_
      rintro e W'' ⟨rfl, j1, v', j2⟩
      exact hK' _ _ ⟨x55, x56, x57, x58, x59, _, _, x62, x63, x64, x65, x66, x67, x68, rfl, (fun h => (updD_self h).elim), (fun _ _ => ⟨v', j2, HK1.out.2.1.trans j1, HOL.out _ _ j1 HK1.out.2.2⟩), (fun h => absurd (show D' 8 = true from h) (by rw [h8]; decide)), (fun h => absurd (show D' 11 = true from h) (by rw [h11]; decide)), (fun h => absurd (show D' 14 = true from h) (by rw [h14]; decide)), f0, f1, f2, f3, f4, (fun _ => rfl), (fun _ => rfl), f7, f8, f9, (fun h => absurd (show D' 10 = true from h) (by rw [h10]; decide)), f12, f13⟩
     ·skip
      refine wpOp_step rfl (fun K' hK' => ?_)
      rw [if_pos (by rfl)]
      go_simp
      exact hK' _ _ ⟨x55, x56, x57, x58, x59, x60, x61, _, x63, x64, x65, x66, x67, x68, rfl, gA, gB, gC, gD, gE, f0, f1, f2, f3, f4, f5, f6, (fun _ => rfl), f8, f9, f10, f12, f13⟩
     ·have q := f7 (hdep 7 (by kernel_rfl))
      subst q
      have h9 := hcl.no hDi (k := 9) (by decide) (by kernel_rfl)
      have h10 := hcl.no h9 (k := 10) (by decide) (by kernel_rfl)
      have h11 := hcl.no h10 (k := 11) (by decide) (by kernel_rfl)
      have h14 := hcl.no h11 (k := 14) (by decide) (by kernel_rfl)
      have h6 := hdep 6 (by kernel_rfl)
      obtain ⟨v, k1, k2, k3⟩ := gB h6 hDi
      have HK1 := Lib.hid (And.intro k1 (And.intro k2 k3))
      clear k1 k2 k3
      refine wpOp_step rfl (fun K' hK' => ?_)
      rw [if_pos (by rfl)]
      go_simp
      refine (HB2.out _ _ _ _ HK1.out.1).mono ?_
      rintro e W'' ⟨rfl, j1, v', j2⟩
      exact hK' _ _ ⟨x55, x56, x57, x58, x59, x60, _, _, _, x64, x65, x66, x67, x68, rfl, (fun h => absurd (show D' 6 = false from h) (by rw [h6]; decide)), (fun _ h => (updD_self h).elim), (fun _ _ => ⟨v', j2, HK1.out.2.1.trans j1, HOL.out _ _ j1 HK1.out.2.2⟩), (fun h => absurd (show D' 11 = true from h) (by rw [h11]; decide)), (fun h => absurd (show D' 14 = true from h) (by rw [h14]; decide)), f0, f1, f2, f3, f4, f5, (fun _ => rfl), (fun _ => rfl), (fun _ => rfl), f9, (fun h => absurd (show D' 10 = true from h) (by rw [h10]; decide)), f12, f13⟩
     ·have q := f6 (hdep 6 (by kernel_rfl))
      subst q
      have q := f8 (hdep 8 (by kernel_rfl))
      subst q
      refine wpOp_step rfl (fun K' hK' => ?_)
      rw [if_pos (by rfl)]
      go_simp
      exact hK' _ _ ⟨x55, x56, x57, x58, x59, x60, _, x62, _, _, x65, x66, x67, x68, rfl, gA, gB, gC, gD, gE, f0, f1, f2, f3, f4, f5, (fun _ => rfl), f7, (fun _ => rfl), (fun _ => rfl), f10, f12, f13⟩
     ·have q := f9 (hdep 9 (by kernel_rfl))
      subst q
      have h11 := hcl.no hDi (k := 11) (by decide) (by kernel_rfl)
      have h14 := hcl.no h11 (k := 14) (by decide) (by kernel_rfl)
      have b9 := hdep 9 (by kernel_rfl)
      have b8 := hcl 9 (by decide) b9 8 (by kernel_rfl)
      have b6 := hcl 9 (by decide) b9 6 (by kernel_rfl)
      obtain ⟨v, k1, k2, k3⟩ := gC b8 h11
      have hlt := k1.1.1
      have HK1 := Lib.hid (And.intro k1 (And.intro k2 k3))
      clear k1 k2 k3
      refine wpOp_step rfl (fun K' hK' => ?_)
      rw [if_pos (by rfl)]
      go_simp
      exact hK' _ _ ⟨x55, x56, x57, x58, x59, x60, _, x62, _, _, _, x66, x67, x68, rfl, (fun h => absurd (show D' 6 = false from h) (by rw [b6]; decide)), (fun _ h => absurd (show D' 8 = false from h) (by rw [b8]; decide)), (fun _ _ => ⟨v, HK1.out.1.later ((Later.refl W').alloc _), HK1.out.2.1.trans (Only.of_later ((Later.refl W').alloc _)), HOL.out _ _ (Only.of_later ((Later.refl W').alloc _)) HK1.out.2.2⟩), (fun h => absurd (show D' 11 = true from h) (by rw [h11]; decide)), (fun h => absurd (show D' 14 = true from h) (by rw [h14]; decide)), f0, f1, f2, f3, f4, f5, (fun _ => rfl), f7, (fun _ => rfl), (fun _ => rfl), (fun _ _ => ⟨W'.heap.size, rfl, (MapKept.heap_alloc W' _).1, hlt⟩), f12, f13⟩
     ·have q := f4 (hdep 4 (by kernel_rfl))
      subst q
      obtain ⟨Z, q, hZ, hbZ⟩ := f10 (hdep 10 (by kernel_rfl)) hDi
      subst q
      have h14 := hcl.no hDi (k := 14) (by decide) (by kernel_rfl)
      have b8 := hdep 8 (by kernel_rfl)
      have b6 := hcl 8 (by decide) b8 6 (by kernel_rfl)
      obtain ⟨v, k1, k2, k3⟩ := gC b8 hDi
      have HK1 := Lib.hid (And.intro k1 (And.intro k2 k3))
      clear k1 k2 k3
      refine wpOp_step rfl (fun K' hK' => ?_)
      rw [if_pos (by rfl)]
      refine wp_append_own _ (.tmp 59) (.tmp 65) 76 rfl w.heap.size 112 i0 _ 2 32 Tryz.underlying76 HI.out.1 HI.out.2.1 HI.out.2.2.1 HI.out.2.2.2 rfl (by decide) (.slice ao 0 cp) 0 (prC (ps.take 0)) rfl HK1.out.2.2 ⟨Z, 0, none⟩ 1 1 [.string S1, .string S2] rfl ?_ ?_ ?_ ?_ ?_ ?_ ?_
      ·rfl
      ·intro j u hu
       rw [addr_add1, Lib.cell_of_heap hZ]
       rw [← Array.getElem?_toList]
       exact hu
      ·intro u hu
       simp at hu
       rcases hu with rfl | rfl <;> rfl
      ·unfold maxLen; omega
      ·omega
      ·exact HK1.out.2.1.size
      ·intro s3 W8 hown8 hgrow _
       obtain ⟨a3, n3, c3, rfl⟩ : ∃ a3 n3 c3, s3 = .slice a3 n3 c3 := by
        rcases hown8.2 with ⟨rfl, _⟩ | ⟨g9, cap9, cur9, rfl, _⟩
        ·exact ⟨_, _, _, rfl⟩
        ·exact ⟨_, _, _, rfl⟩
       have hlt2 : ∀ j, (.slice ao 0 cp : Value).ownBlock = some j → w.heap.size ≤ j := fun j hj => (HK1.out.2.2.lt j hj).1
       have HKB := HK1.out.2.1.size
       have hR8 := HK1.out.1.below ⟨hgrow.os, hgrow.tape, hgrow.output, hgrow.size, fun j hj => hgrow.block j (by have := HKW.out; omega) (fun e => by have := hlt2 j e.symm; have := HKW.out; omega)⟩
       have hO8 : Only b w W8 := ⟨hgrow.os.trans HK1.out.2.1.os, hgrow.tape.trans HK1.out.2.1.tape, hgrow.output.trans HK1.out.2.1.output, Nat.le_trans HKB hgrow.size, fun j hj hb => (hgrow.block j (by omega) (fun e => by have := hlt2 j e.symm; omega)).trans (HK1.out.2.1.block j hj hb)⟩
       have hw8 : W8.ownsRow w.heap.size 112 2 (.slice a3 n3 c3) (0 + 1) (prC (ps.take (0 + 1))) := by rw [HT.out, HSS.out.1, HSS.out.2]; exact hown8
       exact hK' _ _ ⟨x55, x56, x57, x58, _, x60, x61, x62, x63, x64, _, _, x67, x68, rfl, (fun h => absurd (show D' 6 = false from h) (by rw [b6]; decide)), (fun _ h => absurd (show D' 8 = false from h) (by rw [b8]; decide)), (fun _ h => (updD_self h).elim), (fun _ _ => ⟨v, a3, n3, c3, rfl, hR8, hO8, hw8⟩), (fun h => absurd (show D' 14 = true from h) (by rw [h14]; decide)), f0, f1, f2, f3, (fun _ => rfl), f5, f6, f7, f8, f9, (fun _ h => (updD_self h).elim), f12, f13⟩
     ·have q := f0 (hdep 0 (by kernel_rfl))
      subst q
      refine wpOp_step rfl (fun K' hK' => ?_)
      rw [if_pos (by rfl)]
      go_simp
      exact hK' _ _ ⟨_, x56, x57, x58, x59, x60, x61, x62, x63, x64, x65, x66, _, x68, rfl, gA, gB, gC, gD, gE, (fun _ => rfl), f1, f2, f3, f4, f5, f6, f7, f8, f9, f10, (fun _ => rfl), f13⟩
     ·have q := f12 (hdep 12 (by kernel_rfl))
      subst q
      refine wpOp_step rfl (fun K' hK' => ?_)
      rw [if_pos (by rfl)]
      go_simp
      exact hK' _ _ ⟨x55, x56, x57, x58, x59, x60, x61, x62, x63, x64, x65, x66, _, _, rfl, gA, gB, gC, gD, gE, f0, f1, f2, f3, f4, f5, f6, f7, f8, f9, f10, (fun _ => rfl), (fun _ => rfl)⟩
     ·have q := f13 (hdep 13 (by kernel_rfl))
      subst q
      have h11 := hdep 11 (by kernel_rfl)
      have b8 := hcl 11 (by decide) h11 8 (by kernel_rfl)
      have b6 := hcl 8 (by decide) b8 6 (by kernel_rfl)
      obtain ⟨v, a3, n3, c3, q, k1, k2, k3⟩ := gD h11 hDi
      subst q
      obtain ⟨cc, ff⟩ := k1.row_cell 15 _ rfl
      have hst := k1.store 15 (.slice a3 n3 c3) (by omega)
      rw [ansRow_set15] at hst
      have HFN := Lib.hid (And.intro hst.1 (And.intro (k2.trans hst.2) (own_set (o := 15) (u := .slice a3 n3 c3) k3 (show b < w.heap.size from HKW.out.2.2))))
      have HFF := Lib.hid (And.intro f0 (And.intro f1 (And.intro f2 (And.intro f3 (And.intro f4 (And.intro f5 (And.intro f6 (And.intro f7 (And.intro f8 (And.intro f9 f12))))))))))
      clear f0 f1 f2 f3 f4 f5 f6 f7 f8 f9 f10 f12 f13 gA gB gC gD gE k1 k2 k3 hst
      refine wpOp_step rfl (fun K' hK' => ?_)
      rw [if_pos (by rfl)]
      go_simp
      exact hK' _ _ ⟨x55, x56, x57, x58, x59, x60, x61, x62, x63, x64, x65, _, x67, _, rfl, (fun h => absurd (show D' 6 = false from h) (by rw [b6]; decide)), (fun _ h => absurd (show D' 8 = false from h) (by rw [b8]; decide)), (fun _ h => absurd (show D' 11 = false from h) (by rw [h11]; decide)), (fun _ h => (updD_self h).elim), (fun _ => ⟨v, _, HFN.out.1, HFN.out.2.1, HFN.out.2.2⟩), HFF.out.1, HFF.out.2.1, HFF.out.2.2.1, HFF.out.2.2.2.1, HFF.out.2.2.2.2.1, HFF.out.2.2.2.2.2.1, HFF.out.2.2.2.2.2.2.1, HFF.out.2.2.2.2.2.2.2.1, HFF.out.2.2.2.2.2.2.2.2.1, HFF.out.2.2.2.2.2.2.2.2.2.1, (fun _ h => absurd (show D' 11 = false from h) (by rw [h11]; decide)), HFF.out.2.2.2.2.2.2.2.2.2.2, (fun _ => rfl)⟩
    ·rintro D' a' W' hD' ⟨x55, x56, x57, x58, x59, x60, x61, x62, x63, x64, x65, x66, x67, x68, rfl, -, -, -, -, gE, -, -, -, -, -, -, -, -, -, -, -, -, -⟩
     obtain ⟨v9, P9, k1, k2, k3⟩ := gE (hD' 14 (by decide))
     have hal9 : AL b K w ps (0 + 1) v9 P9 W' := ⟨by rw [HRS.out]; exact k1, k2, k3⟩
     have hl9 := leftW_rd k1
     have HM9 := Lib.hid (show leftW b W' < leftW b wk by rw [hl9, HLW.out, ← HRS.out, prW_len, List.length_drop, HNN.out]; omega)
     have HAL9 := Lib.hid hal9
     clear gE k1 k2 k3 hal9 hl9
     go_wp2_with fail
     go_roundw
     case rel => exact ⟨0 + 1, v9, P9, by omega, HAL9.out⟩
     case measure => exact HM9.out
   ·have hk1 : ((k : Int) == 0) = false := by simp; omega
    go_upto_region 12 with fail
    obtain ⟨p, hp⟩ : ∃ p, ps[k]? = some p := ⟨_, List.getElem?_eq_getElem (by have := HNN.out; omega)⟩
    have hdr : prW (ps.drop k) = word p.1 :: word p.2 :: prW (ps.drop (k + 1)) := by
     rw [List.drop_eq_getElem_cons (by have := HNN.out; omega)]
     have h9 : ps[k]'(by have := HNN.out; omega) = p := by have := hp; rw [List.getElem?_eq_getElem (by have := HNN.out; omega)] at this; exact Option.some.inj this
     rw [h9]; rfl
    have HT := Lib.hid (show prC (ps.take (k + 1)) = prC (ps.take k) ++ [strV p.1, strV p.2] by rw [List.take_add_one, hp]; exact prC_snoc _ _)
    obtain ⟨rest, hrest⟩ : ∃ rest, prW (ps.drop (k + 1)) = rest := ⟨_, rfl⟩
    have HRS := Lib.hid hrest
    have hal0 := HAL.out
    unfold AL at hal0
    rw [hdr, hrest] at hal0
    have HA0 := Lib.hid hal0
    obtain ⟨S1, hS1⟩ : ∃ S1 : ByteArray, S1 = ⟨p.1.toArray⟩ := ⟨_, rfl⟩
    obtain ⟨S2, hS2⟩ : ∃ S2 : ByteArray, S2 = ⟨p.2.toArray⟩ := ⟨_, rfl⟩
    have HSS := Lib.hid (show strV p.1 = .string S1 ∧ strV p.2 = .string S2 from ⟨by rw [hS1]; rfl, by rw [hS2]; rfl⟩)
    have HB1 := Lib.hid (fun v (P : Value) ws W (h : RdW b K (ansRow v 0 [] P) (word p.1 :: ws) W) => show Calls Tryz.prog 130 #[.pointer (some ⟨b, 0, none⟩)] W fun e w' => e = .returned (.string S1) ∧ Only b W w' ∧ ∃ v', RdW b K (ansRow v' 0 [] P) ws w' by rw [← HSS.out.1]; exact bytes_word b K v 0 [] P p.1 ws W h)
    have HB2 := Lib.hid (fun v (P : Value) ws W (h : RdW b K (ansRow v 0 [] P) (word p.2 :: ws) W) => show Calls Tryz.prog 130 #[.pointer (some ⟨b, 0, none⟩)] W fun e w' => e = .returned (.string S2) ∧ Only b W w' ∧ ∃ v', RdW b K (ansRow v' 0 [] P) ws w' by rw [← HSS.out.2]; exact bytes_word b K v 0 [] P p.2 ws W h)
    clear hp hdr hrest hal0 hS1 hS2 c15 f15 c0
    have hownl : ∀ {W W' : World}, Only b W W' → W.ownsRow w.heap.size 112 2 (.slice ao k cp) k (prC (ps.take k)) → W'.ownsRow w.heap.size 112 2 (.slice ao k cp) k (prC (ps.take k)) := fun {W W'} hk h => h.kept (row := some b) ⟨hk.os, hk.tape, hk.output, hk.size, fun i hi hne => hk.block i hi (fun e => hne (by rw [e]))⟩ (.inr (fun e => by have := (h.lt b e).1; have := HKW.out; omega))
    have HOL := Lib.hid (fun (W W' : World) hk h => hownl (W := W) (W' := W') hk h)
    clear hownl
    refine wp_region_iv rfl (fun D' a' W' => ∃ x55 x56 x57 x58 x59 x60 x61 x62 x63 x64 x65 x66 x67 x68, a' = ⟨#[.pointer (some ⟨b, 0, none⟩), undef, .pointer (some ⟨b, 13, none⟩), undef, undef, .pointer (some ⟨b, 0, none⟩), .pointer (some ⟨b, 0, none⟩), .pointer (some ⟨b, 13, none⟩), .pointer (some ⟨b, 0, none⟩), .string ⟨#[112, 97, 105, 114, 115]⟩, undef, .bool false, .bool false, undef, undef, undef, undef, undef, undef, undef, undef, undef, undef, undef, .bool false, .bool false, .bool false, .bool false, undef, undef, undef, undef, undef, undef, undef, undef, undef, undef, undef, .bool true, .bool true, .pointer (some ⟨b, 13, none⟩), .pointer (some ⟨b, 13, none⟩), .pointer (some ⟨b, 15, none⟩), .slice ao k cp, .int .i64 k, .bool false, .bool false, .pointer (some ⟨b, 0, none⟩), .pointer (some ⟨b, 0, none⟩), .pointer (some ⟨b, 0, none⟩), .slice (some ⟨wb, off, none⟩) m cap, .int .i64 m, .bool true, .bool true, x55, x56, x57, x58, x59, x60, x61, x62, x63, x64, x65, x66, x67, x68, undef, undef, undef, undef, undef, undef, undef, undef, undef, undef, undef, undef, undef, undef, undef, undef, undef, undef, undef, undef, undef, undef, undef, undef, undef, undef, undef, undef, undef, undef, undef, undef, undef, undef, undef, undef, undef, undef, undef, undef], []⟩ ∧ (D' 6 = false → ∃ v, RdW b K (ansRow v 0 [] (.slice ao k cp)) (word p.1 :: word p.2 :: rest) W' ∧ Only b w W' ∧ W'.ownsRow w.heap.size 112 2 (.slice ao k cp) k (prC (ps.take k))) ∧
     (D' 6 = true → D' 8 = false → ∃ v, RdW b K (ansRow v 0 [] (.slice ao k cp)) (word p.2 :: rest) W' ∧ Only b w W' ∧ W'.ownsRow w.heap.size 112 2 (.slice ao k cp) k (prC (ps.take k))) ∧
     (D' 8 = true → D' 11 = false → ∃ v, RdW b K (ansRow v 0 [] (.slice ao k cp)) rest W' ∧ Only b w W' ∧ W'.ownsRow w.heap.size 112 2 (.slice ao k cp) k (prC (ps.take k))) ∧
     (D' 11 = true → D' 14 = false → ∃ v a3 n3 c3, x66 = .slice a3 n3 c3 ∧ RdW b K (ansRow v 0 [] (.slice ao k cp)) rest W' ∧ Only b w W' ∧ W'.ownsRow w.heap.size 112 2 x66 (k + 1) (prC (ps.take (k + 1)))) ∧
     (D' 14 = true → ∃ v P', RdW b K (ansRow v 0 [] P') rest W' ∧ Only b w W' ∧ W'.ownsRow w.heap.size 112 2 P' (k + 1) (prC (ps.take (k + 1)))) ∧
     (D' 0 = true → x55 = .pointer (some ⟨b, 13, none⟩)) ∧ (D' 1 = true → x56 = .pointer (some ⟨b, 13, none⟩)) ∧ (D' 2 = true → x57 = .pointer (some ⟨b, 13, none⟩)) ∧ (D' 3 = true → x58 = .pointer (some ⟨b, 15, none⟩)) ∧ (D' 4 = true → x59 = .slice ao k cp) ∧ (D' 5 = true → x60 = .pointer (some ⟨b, 0, none⟩)) ∧ (D' 6 = true → x61 = .string S1) ∧ (D' 7 = true → x62 = .pointer (some ⟨b, 0, none⟩)) ∧ (D' 8 = true → x63 = .string S2) ∧ (D' 9 = true → x64 = .agg #[.string S1, .string S2]) ∧
     (D' 10 = true → D' 11 = false → ∃ Z, x65 = .slice (some ⟨Z, 0, none⟩) 1 1 ∧ W'.heap[Z]? = some (.cells #[.string S1, .string S2] 112 (0, 0)) ∧ b < Z) ∧ (D' 12 = true → x67 = .pointer (some ⟨b, 13, none⟩)) ∧ (D' 13 = true → x68 = .pointer (some ⟨b, 15, none⟩))) (by kernel_rfl) ?_ ?_ ?_
    ·exact ⟨u55, u56, u57, u58, u59, u60, u61, u62, u63, u64, u65, u66, u67, u68, rfl, (fun _ => (HA0.out.1.later (Later.refl wk).drew |> fun h => ⟨v, h, HA0.out.2.1.trans (Only.of_later (Later.refl wk).drew), HA0.out.2.2⟩)), (fun h => by cases h), (fun h => by cases h), (fun h => by cases h), (fun h => by cases h), (fun h => by cases h), (fun h => by cases h), (fun h => by cases h), (fun h => by cases h), (fun h => by cases h), (fun h => by cases h), (fun h => by cases h), (fun h => by cases h), (fun h => by cases h), (fun h => by cases h), (fun h => by cases h), (fun h => by cases h), (fun h => by cases h)⟩
    ·intro i D' a' W' hi hDi hdep hcl hI
     obtain ⟨x55, x56, x57, x58, x59, x60, x61, x62, x63, x64, x65, x66, x67, x68, rfl, gA, gB, gC, gD, gE, f0, f1, f2, f3, f4, f5, f6, f7, f8, f9, f10, f12, f13⟩ := hI
     have hi' : i = 0 ∨ i = 1 ∨ i = 2 ∨ i = 3 ∨ i = 4 ∨ i = 5 ∨ i = 6 ∨ i = 7 ∨ i = 8 ∨ i = 9 ∨ i = 10 ∨ i = 11 ∨ i = 12 ∨ i = 13 ∨ i = 14 := by
      have : i < 15 := hi
      omega
     rcases hi' with rfl | rfl | rfl | rfl | rfl | rfl | rfl | rfl | rfl | rfl | rfl | rfl | rfl | rfl | rfl
     ·skip
      refine wpOp_step rfl (fun K' hK' => ?_)
      rw [if_pos (by rfl)]
      go_simp
      exact hK' _ _ ⟨_, x56, x57, x58, x59, x60, x61, x62, x63, x64, x65, x66, x67, x68, rfl, gA, gB, gC, gD, gE, (fun _ => rfl), f1, f2, f3, f4, f5, f6, f7, f8, f9, f10, f12, f13⟩
     ·skip
      refine wpOp_step rfl (fun K' hK' => ?_)
      rw [if_pos (by rfl)]
      go_simp
      exact hK' _ _ ⟨x55, _, x57, x58, x59, x60, x61, x62, x63, x64, x65, x66, x67, x68, rfl, gA, gB, gC, gD, gE, f0, (fun _ => rfl), f2, f3, f4, f5, f6, f7, f8, f9, f10, f12, f13⟩
     ·have q := f1 (hdep 1 (by kernel_rfl))
      subst q
      refine wpOp_step rfl (fun K' hK' => ?_)
      rw [if_pos (by rfl)]
      go_simp
      exact hK' _ _ ⟨x55, _, _, x58, x59, x60, x61, x62, x63, x64, x65, x66, x67, x68, rfl, gA, gB, gC, gD, gE, f0, (fun _ => rfl), (fun _ => rfl), f3, f4, f5, f6, f7, f8, f9, f10, f12, f13⟩
     ·have q := f2 (hdep 2 (by kernel_rfl))
      subst q
      refine wpOp_step rfl (fun K' hK' => ?_)
      rw [if_pos (by rfl)]
      go_simp
      exact hK' _ _ ⟨x55, x56, _, _, x59, x60, x61, x62, x63, x64, x65, x66, x67, x68, rfl, gA, gB, gC, gD, gE, f0, f1, (fun _ => rfl), (fun _ => rfl), f4, f5, f6, f7, f8, f9, f10, f12, f13⟩
     ·have q := f3 (hdep 3 (by kernel_rfl))
      subst q
      have h11 := hcl.no hDi (k := 11) (by decide) (by kernel_rfl)
      have hc : W'.cell? ⟨b, 15, none⟩ = some (.slice ao k cp) := by
       cases h6 : D' 6 with
       | false => obtain ⟨v, h1, -, -⟩ := gA h6; exact (h1.row_cell 15 _ rfl).1
       | true =>
        cases h8 : D' 8 with
        | false => obtain ⟨v, h1, -, -⟩ := gB h6 h8; exact (h1.row_cell 15 _ rfl).1
        | true => obtain ⟨v, h1, -, -⟩ := gC h8 h11; exact (h1.row_cell 15 _ rfl).1
      refine wpOp_step rfl (fun K' hK' => ?_)
      rw [if_pos (by rfl)]
      go_simp
      exact hK' _ _ ⟨x55, x56, x57, _, _, x60, x61, x62, x63, x64, x65, x66, x67, x68, rfl, gA, gB, gC, gD, gE, f0, f1, f2, (fun _ => rfl), (fun _ => rfl), f5, f6, f7, f8, f9, f10, f12, f13⟩
     ·skip
      refine wpOp_step rfl (fun K' hK' => ?_)
      rw [if_pos (by rfl)]
      go_simp
      exact hK' _ _ ⟨x55, x56, x57, x58, x59, _, x61, x62, x63, x64, x65, x66, x67, x68, rfl, gA, gB, gC, gD, gE, f0, f1, f2, f3, f4, (fun _ => rfl), f6, f7, f8, f9, f10, f12, f13⟩
     ·have q := f5 (hdep 5 (by kernel_rfl))
      subst q
      have h8 := hcl.no hDi (k := 8) (by decide) (by kernel_rfl)
      have h9 := hcl.no h8 (k := 9) (by decide) (by kernel_rfl)
      have h10 := hcl.no h9 (k := 10) (by decide) (by kernel_rfl)
      have h11 := hcl.no h10 (k := 11) (by decide) (by kernel_rfl)
      have h14 := hcl.no h11 (k := 14) (by decide) (by kernel_rfl)
      obtain ⟨v, k1, k2, k3⟩ := gA hDi
      have HK1 := Lib.hid (And.intro k1 (And.intro k2 k3))
      clear k1 k2 k3
      refine wpOp_step rfl (fun K' hK' => ?_)
      rw [if_pos (by rfl)]
      go_simp
      refine (HB1.out _ _ _ _ HK1.out.1).mono ?_
      rintro e W'' ⟨rfl, j1, v', j2⟩
      exact hK' _ _ ⟨x55, x56, x57, x58, x59, _, _, x62, x63, x64, x65, x66, x67, x68, rfl, (fun h => (updD_self h).elim), (fun _ _ => ⟨v', j2, HK1.out.2.1.trans j1, HOL.out _ _ j1 HK1.out.2.2⟩), (fun h => absurd (show D' 8 = true from h) (by rw [h8]; decide)), (fun h => absurd (show D' 11 = true from h) (by rw [h11]; decide)), (fun h => absurd (show D' 14 = true from h) (by rw [h14]; decide)), f0, f1, f2, f3, f4, (fun _ => rfl), (fun _ => rfl), f7, f8, f9, (fun h => absurd (show D' 10 = true from h) (by rw [h10]; decide)), f12, f13⟩
     ·skip
      refine wpOp_step rfl (fun K' hK' => ?_)
      rw [if_pos (by rfl)]
      go_simp
      exact hK' _ _ ⟨x55, x56, x57, x58, x59, x60, x61, _, x63, x64, x65, x66, x67, x68, rfl, gA, gB, gC, gD, gE, f0, f1, f2, f3, f4, f5, f6, (fun _ => rfl), f8, f9, f10, f12, f13⟩
     ·have q := f7 (hdep 7 (by kernel_rfl))
      subst q
      have h9 := hcl.no hDi (k := 9) (by decide) (by kernel_rfl)
      have h10 := hcl.no h9 (k := 10) (by decide) (by kernel_rfl)
      have h11 := hcl.no h10 (k := 11) (by decide) (by kernel_rfl)
      have h14 := hcl.no h11 (k := 14) (by decide) (by kernel_rfl)
      have h6 := hdep 6 (by kernel_rfl)
      obtain ⟨v, k1, k2, k3⟩ := gB h6 hDi
      have HK1 := Lib.hid (And.intro k1 (And.intro k2 k3))
      clear k1 k2 k3
      refine wpOp_step rfl (fun K' hK' => ?_)
      rw [if_pos (by rfl)]
      go_simp
      refine (HB2.out _ _ _ _ HK1.out.1).mono ?_
      rintro e W'' ⟨rfl, j1, v', j2⟩
      exact hK' _ _ ⟨x55, x56, x57, x58, x59, x60, _, _, _, x64, x65, x66, x67, x68, rfl, (fun h => absurd (show D' 6 = false from h) (by rw [h6]; decide)), (fun _ h => (updD_self h).elim), (fun _ _ => ⟨v', j2, HK1.out.2.1.trans j1, HOL.out _ _ j1 HK1.out.2.2⟩), (fun h => absurd (show D' 11 = true from h) (by rw [h11]; decide)), (fun h => absurd (show D' 14 = true from h) (by rw [h14]; decide)), f0, f1, f2, f3, f4, f5, (fun _ => rfl), (fun _ => rfl), (fun _ => rfl), f9, (fun h => absurd (show D' 10 = true from h) (by rw [h10]; decide)), f12, f13⟩
     ·have q := f6 (hdep 6 (by kernel_rfl))
      subst q
      have q := f8 (hdep 8 (by kernel_rfl))
      subst q
      refine wpOp_step rfl (fun K' hK' => ?_)
      rw [if_pos (by rfl)]
      go_simp
      exact hK' _ _ ⟨x55, x56, x57, x58, x59, x60, _, x62, _, _, x65, x66, x67, x68, rfl, gA, gB, gC, gD, gE, f0, f1, f2, f3, f4, f5, (fun _ => rfl), f7, (fun _ => rfl), (fun _ => rfl), f10, f12, f13⟩
     ·have q := f9 (hdep 9 (by kernel_rfl))
      subst q
      have h11 := hcl.no hDi (k := 11) (by decide) (by kernel_rfl)
      have h14 := hcl.no h11 (k := 14) (by decide) (by kernel_rfl)
      have b9 := hdep 9 (by kernel_rfl)
      have b8 := hcl 9 (by decide) b9 8 (by kernel_rfl)
      have b6 := hcl 9 (by decide) b9 6 (by kernel_rfl)
      obtain ⟨v, k1, k2, k3⟩ := gC b8 h11
      have hlt := k1.1.1
      have HK1 := Lib.hid (And.intro k1 (And.intro k2 k3))
      clear k1 k2 k3
      refine wpOp_step rfl (fun K' hK' => ?_)
      rw [if_pos (by rfl)]
      go_simp
      exact hK' _ _ ⟨x55, x56, x57, x58, x59, x60, _, x62, _, _, _, x66, x67, x68, rfl, (fun h => absurd (show D' 6 = false from h) (by rw [b6]; decide)), (fun _ h => absurd (show D' 8 = false from h) (by rw [b8]; decide)), (fun _ _ => ⟨v, HK1.out.1.later ((Later.refl W').alloc _), HK1.out.2.1.trans (Only.of_later ((Later.refl W').alloc _)), HOL.out _ _ (Only.of_later ((Later.refl W').alloc _)) HK1.out.2.2⟩), (fun h => absurd (show D' 11 = true from h) (by rw [h11]; decide)), (fun h => absurd (show D' 14 = true from h) (by rw [h14]; decide)), f0, f1, f2, f3, f4, f5, (fun _ => rfl), f7, (fun _ => rfl), (fun _ => rfl), (fun _ _ => ⟨W'.heap.size, rfl, (MapKept.heap_alloc W' _).1, hlt⟩), f12, f13⟩
     ·have q := f4 (hdep 4 (by kernel_rfl))
      subst q
      obtain ⟨Z, q, hZ, hbZ⟩ := f10 (hdep 10 (by kernel_rfl)) hDi
      subst q
      have h14 := hcl.no hDi (k := 14) (by decide) (by kernel_rfl)
      have b8 := hdep 8 (by kernel_rfl)
      have b6 := hcl 8 (by decide) b8 6 (by kernel_rfl)
      obtain ⟨v, k1, k2, k3⟩ := gC b8 hDi
      have HK1 := Lib.hid (And.intro k1 (And.intro k2 k3))
      clear k1 k2 k3
      refine wpOp_step rfl (fun K' hK' => ?_)
      rw [if_pos (by rfl)]
      refine wp_append_own _ (.tmp 59) (.tmp 65) 76 rfl w.heap.size 112 i0 _ 2 32 Tryz.underlying76 HI.out.1 HI.out.2.1 HI.out.2.2.1 HI.out.2.2.2 rfl (by decide) (.slice ao k cp) k (prC (ps.take k)) rfl HK1.out.2.2 ⟨Z, 0, none⟩ 1 1 [.string S1, .string S2] rfl ?_ ?_ ?_ ?_ ?_ ?_ ?_
      ·rfl
      ·intro j u hu
       rw [addr_add1, Lib.cell_of_heap hZ]
       rw [← Array.getElem?_toList]
       exact hu
      ·intro u hu
       simp at hu
       rcases hu with rfl | rfl <;> rfl
      ·unfold maxLen; omega
      ·omega
      ·exact HK1.out.2.1.size
      ·intro s3 W8 hown8 hgrow _
       obtain ⟨a3, n3, c3, rfl⟩ : ∃ a3 n3 c3, s3 = .slice a3 n3 c3 := by
        rcases hown8.2 with ⟨rfl, _⟩ | ⟨g9, cap9, cur9, rfl, _⟩
        ·exact ⟨_, _, _, rfl⟩
        ·exact ⟨_, _, _, rfl⟩
       have hlt2 : ∀ j, (.slice ao k cp : Value).ownBlock = some j → w.heap.size ≤ j := fun j hj => (HK1.out.2.2.lt j hj).1
       have HKB := HK1.out.2.1.size
       have hR8 := HK1.out.1.below ⟨hgrow.os, hgrow.tape, hgrow.output, hgrow.size, fun j hj => hgrow.block j (by have := HKW.out; omega) (fun e => by have := hlt2 j e.symm; have := HKW.out; omega)⟩
       have hO8 : Only b w W8 := ⟨hgrow.os.trans HK1.out.2.1.os, hgrow.tape.trans HK1.out.2.1.tape, hgrow.output.trans HK1.out.2.1.output, Nat.le_trans HKB hgrow.size, fun j hj hb => (hgrow.block j (by omega) (fun e => by have := hlt2 j e.symm; omega)).trans (HK1.out.2.1.block j hj hb)⟩
       have hw8 : W8.ownsRow w.heap.size 112 2 (.slice a3 n3 c3) (k + 1) (prC (ps.take (k + 1))) := by rw [HT.out, HSS.out.1, HSS.out.2]; exact hown8
       exact hK' _ _ ⟨x55, x56, x57, x58, _, x60, x61, x62, x63, x64, _, _, x67, x68, rfl, (fun h => absurd (show D' 6 = false from h) (by rw [b6]; decide)), (fun _ h => absurd (show D' 8 = false from h) (by rw [b8]; decide)), (fun _ h => (updD_self h).elim), (fun _ _ => ⟨v, a3, n3, c3, rfl, hR8, hO8, hw8⟩), (fun h => absurd (show D' 14 = true from h) (by rw [h14]; decide)), f0, f1, f2, f3, (fun _ => rfl), f5, f6, f7, f8, f9, (fun _ h => (updD_self h).elim), f12, f13⟩
     ·have q := f0 (hdep 0 (by kernel_rfl))
      subst q
      refine wpOp_step rfl (fun K' hK' => ?_)
      rw [if_pos (by rfl)]
      go_simp
      exact hK' _ _ ⟨_, x56, x57, x58, x59, x60, x61, x62, x63, x64, x65, x66, _, x68, rfl, gA, gB, gC, gD, gE, (fun _ => rfl), f1, f2, f3, f4, f5, f6, f7, f8, f9, f10, (fun _ => rfl), f13⟩
     ·have q := f12 (hdep 12 (by kernel_rfl))
      subst q
      refine wpOp_step rfl (fun K' hK' => ?_)
      rw [if_pos (by rfl)]
      go_simp
      exact hK' _ _ ⟨x55, x56, x57, x58, x59, x60, x61, x62, x63, x64, x65, x66, _, _, rfl, gA, gB, gC, gD, gE, f0, f1, f2, f3, f4, f5, f6, f7, f8, f9, f10, (fun _ => rfl), (fun _ => rfl)⟩
     ·have q := f13 (hdep 13 (by kernel_rfl))
      subst q
      have h11 := hdep 11 (by kernel_rfl)
      have b8 := hcl 11 (by decide) h11 8 (by kernel_rfl)
      have b6 := hcl 8 (by decide) b8 6 (by kernel_rfl)
      obtain ⟨v, a3, n3, c3, q, k1, k2, k3⟩ := gD h11 hDi
      subst q
      obtain ⟨cc, ff⟩ := k1.row_cell 15 _ rfl
      have hst := k1.store 15 (.slice a3 n3 c3) (by omega)
      rw [ansRow_set15] at hst
      have HFN := Lib.hid (And.intro hst.1 (And.intro (k2.trans hst.2) (own_set (o := 15) (u := .slice a3 n3 c3) k3 (show b < w.heap.size from HKW.out.2.2))))
      have HFF := Lib.hid (And.intro f0 (And.intro f1 (And.intro f2 (And.intro f3 (And.intro f4 (And.intro f5 (And.intro f6 (And.intro f7 (And.intro f8 (And.intro f9 f12))))))))))
      clear f0 f1 f2 f3 f4 f5 f6 f7 f8 f9 f10 f12 f13 gA gB gC gD gE k1 k2 k3 hst
      refine wpOp_step rfl (fun K' hK' => ?_)
      rw [if_pos (by rfl)]
      go_simp
      exact hK' _ _ ⟨x55, x56, x57, x58, x59, x60, x61, x62, x63, x64, x65, _, x67, _, rfl, (fun h => absurd (show D' 6 = false from h) (by rw [b6]; decide)), (fun _ h => absurd (show D' 8 = false from h) (by rw [b8]; decide)), (fun _ h => absurd (show D' 11 = false from h) (by rw [h11]; decide)), (fun _ h => (updD_self h).elim), (fun _ => ⟨v, _, HFN.out.1, HFN.out.2.1, HFN.out.2.2⟩), HFF.out.1, HFF.out.2.1, HFF.out.2.2.1, HFF.out.2.2.2.1, HFF.out.2.2.2.2.1, HFF.out.2.2.2.2.2.1, HFF.out.2.2.2.2.2.2.1, HFF.out.2.2.2.2.2.2.2.1, HFF.out.2.2.2.2.2.2.2.2.1, HFF.out.2.2.2.2.2.2.2.2.2.1, (fun _ h => absurd (show D' 11 = false from h) (by rw [h11]; decide)), HFF.out.2.2.2.2.2.2.2.2.2.2, (fun _ => rfl)⟩
    ·rintro D' a' W' hD' ⟨x55, x56, x57, x58, x59, x60, x61, x62, x63, x64, x65, x66, x67, x68, rfl, -, -, -, -, gE, -, -, -, -, -, -, -, -, -, -, -, -, -⟩
     obtain ⟨v9, P9, k1, k2, k3⟩ := gE (hD' 14 (by decide))
     have hal9 : AL b K w ps (k + 1) v9 P9 W' := ⟨by rw [HRS.out]; exact k1, k2, k3⟩
     have hl9 := leftW_rd k1
     have HM9 := Lib.hid (show leftW b W' < leftW b wk by rw [hl9, HLW.out, ← HRS.out, prW_len, List.length_drop, HNN.out]; omega)
     have HAL9 := Lib.hid hal9
     clear gE k1 k2 k3 hal9 hl9
     go_wp2_with fail
     go_roundw
     case rel => exact ⟨k + 1, v9, P9, by omega, HAL9.out⟩
     case measure => exact HM9.out
  ·obtain rfl : k = n := by omega
   have hm0 : m = 0 := by omega
   subst hm0
   have hk1 : ((k : Int) == 0) = false := by simp; omega
   have HF := Lib.hid (show APEnd b K ps w (.returned (.tuple #[])) wk by
    obtain ⟨k1, k2, k3⟩ := HAL.out
    rw [List.drop_of_length_le (by rw [HNN.out]; omega)] at k1
    rw [List.take_of_length_le (by rw [HNN.out]; omega)] at k3
    exact ⟨k2, rfl, v, _, k1, by rw [HNN.out]; exact k3⟩)
   clear hm
   go_wp2_with fail
   refine (must_true _).mono ?_
   rintro e w3 ⟨rfl, hw3⟩
   rw [hw3]
   clear hw3
   go_wp2_with fail
   go_end0
   exact HF.out
end Go.Proofs.YtkbedajbbakihaaGreatDoor
