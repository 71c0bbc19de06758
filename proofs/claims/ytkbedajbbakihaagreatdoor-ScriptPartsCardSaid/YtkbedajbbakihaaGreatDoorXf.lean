/-
 Texts of this proof, put together (Ps): each part's first words say what it holds. Conditions: as each part says.
-/
import Derived.Test.YtkbedajbbakihaaGreatDoorXe
import Derived.Test.YtkbedajbbakihaaGreatDoorQk
import Derived.Deep.DeepCutAuto
import Derived.Test.YtkbedajbbakihaaGreatDoorXa
import Derived.Test.YtkbedajbbakihaaGreatDoorXb
/-
 Two texts parsed one after the other, walked: ScriptParts. Conditions: the listed variables read as laid.
-/
namespace Go.Proofs.YtkbedajbbakihaaGreatDoor
open Go.RowKit
set_option linter.unusedSimpArgs false
set_option linter.unusedVariables false

theorem lnsA_num (l : List UInt8) : ∀ acc : List UInt8, (lnsA acc l).length ≤ l.length + 1 := by
 induction l with
 | nil => intro acc; rw [lnsA]; split <;> simp
 | cons c r ih =>
  intro acc
  rw [lnsA]
  split
  ·have := ih []
   simp only [List.length_cons]
   omega
  ·have := ih (acc ++ [c])
   simp only [List.length_cons]
   omega
theorem runP_at : ∀ (ls : List (List UInt8 × Bool)) (st : Scr) (k n : Nat) (c : Int), runP ls st k = .error (n, c) → n ≤ k + ls.length
 | [], _, _, _, _, h => by cases h
 | x :: t, st, k, n, c, h => by
  rw [runP] at h
  cases hs : stP st x with
  | error c' =>
   rw [hs] at h
   cases h
   exact Nat.le_add_right _ _
  | ok st' =>
   rw [hs] at h
   have := runP_at t st' (k + 1) n c h
   simp only [List.length_cons]
   omega
theorem parse_at {l : List UInt8} {n : Nat} {c : Int} (h : parseP l = .error (n, c)) : n ≤ l.length + 1 := by
 unfold parseP at h
 split at h
 ·cases h; omega
 ·have := runP_at _ _ _ _ _ h
  have := lnsA_num l []
  unfold lns at *
  omega
/-- some end of Parse -/
def PAny (w : World) (e : Ending) (w' : World) : Prop := Later w w' ∧ ∃ ao n ca bo m cb k c, e = .returned (.tuple #[.agg #[.slice ao n ca, .slice bo m cb], .int .i64 k, .int .i64 c])
theorem Parse_some (l : List UInt8) (w : World) (hw : Laid w) : Calls Tryz.prog 17 #[strV l] w (PAny w) := by
 cases h : parseP l with
 | error nc =>
  obtain ⟨n, c⟩ := nc
  refine (Parse_err h w hw).mono ?_
  rintro e w' ⟨rfl, h1⟩
  exact ⟨h1, _, _, _, _, _, _, _, _, rfl⟩
 | ok s =>
  refine (Parse_ok h w hw).mono ?_
  rintro e w' ⟨h1, ao, ca, bo, cb, rfl, -, -⟩
  exact ⟨h1, _, _, _, _, _, _, _, _, rfl⟩
/-- the text with a line feed at its end -/
def FinOf (a A : ByteArray) (c : Bool) : Prop := (a.size = 0 ∧ A = a ∧ c = false) ∨ (∃ m, ∃ h : m < a.size, a.size = m + 1 ∧ a.data[m] = 10 ∧ A = a ∧ c = false) ∨ (∃ m, ∃ h : m < a.size, a.size = m + 1 ∧ a.data[m] ≠ 10 ∧ A = a ++ ⟨#[10]⟩ ∧ c = true)
theorem fin_ex (a : ByteArray) : ∃ A c, FinOf a A c ∧ Ends A.data.toList ∧ A.size ≤ a.size + 1 := by
 by_cases h0 : a.size = 0
 ·refine ⟨a, false, .inl ⟨h0, rfl, rfl⟩, .inl ?_, by omega⟩
  rw [Lib.size_eq] at h0
  exact List.length_eq_zero_iff.1 h0
 ·obtain ⟨m, hm⟩ : ∃ m, a.size = m + 1 := ⟨a.size - 1, by omega⟩
  have hlt : m < a.size := by omega
  by_cases h1 : a.data[m] = 10
  ·refine ⟨a, false, .inr (.inl ⟨m, hlt, hm, h1, rfl, rfl⟩), .inr ⟨a.data.toList.take m, ?_⟩, by omega⟩
   have hlt' : m < a.data.toList.length := by rw [← Lib.size_eq]; exact hlt
   have := List.take_append_drop m a.data.toList
   rw [List.drop_eq_getElem_cons hlt', List.drop_of_length_le (by rw [← Lib.size_eq]; omega)] at this
   have h2 : a.data.toList[m] = 10 := by rw [Array.getElem_toList]; exact h1
   rw [h2] at this
   exact this.symm
  ·refine ⟨a ++ ⟨#[10]⟩, true, .inr (.inr ⟨m, hlt, hm, h1, rfl, rfl⟩), .inr ⟨a.data.toList, by simp⟩, ?_⟩
   rw [ByteArray.size_append]
   show a.size + 1 ≤ _
   omega
theorem Parts_long (a b : ByteArray) (w : World) (hw : Laid w) (h : 10000 < a.size ∨ (a.size ≤ 10000 ∧ 10000 < b.size)) :
  Calls Tryz.prog 10 #[.string a, .string b] w fun e w' => e = .returned (.bool true) ∧ Later w w' := by
 have HW := Lib.hid hw
 clear hw
 rcases h with h | ⟨h, h2⟩
 ·have hd : decide ((10000 : Int) < (a.size : Int)) = true := decide_eq_true (by omega)
  go_enter Tryz.func10, Tryz.ntmps10
  go_wp2_with fail
  refine (awake_is _ HW.out).mono ?_
  rintro e w1 ⟨rfl, hl⟩
  have HL := Lib.hid hl
  clear hl
  go_wp2_with fail
  go_ret
  exact ⟨rfl, HL.out⟩
 ·have hd : decide ((10000 : Int) < (a.size : Int)) = false := decide_eq_false (by omega)
  have hd2 : decide ((10000 : Int) < (b.size : Int)) = true := decide_eq_true (by omega)
  go_enter Tryz.func10, Tryz.ntmps10
  go_wp2_with fail
  refine (awake_is _ HW.out).mono ?_
  rintro e w1 ⟨rfl, hl⟩
  have HL := Lib.hid hl
  clear hl
  go_wp2_with fail
  go_ret
  exact ⟨rfl, HL.out⟩
theorem Same_nil (w : World) : Calls Tryz.prog 19 #[.agg #[.slice none 0 0, .slice none 0 0], .agg #[.slice none 0 0, .slice none 0 0]] w (Ret (.bool true) w) :=
 SameScript_is _ _ _ _ ([], []) (by simp) (by simp) (fun e he => by cases he) w ⟨none, 0, rfl, .inl rfl⟩ ⟨none, 0, rfl, .inl rfl⟩ ⟨none, 0, rfl, .inl rfl⟩ ⟨none, 0, rfl, .inl rfl⟩
set_option maxRecDepth 100000 in
theorem Parts_e1 (a b A : ByteArray) (c : Bool) (hlen : A.size ≤ 10001) (hfin : FinOf a A c) (hend : Ends A.data.toList) (hsa : a.size ≤ 10000) (hsb : b.size ≤ 10000) (n : Nat) (c0 : Int) (hp : parseP A.data.toList = .error (n, c0)) (w : World) (hw : Laid w) :
  Calls Tryz.prog 10 #[.string a, .string b] w fun e w' => e = .returned (.bool true) ∧ Later w w' := by
 have hAB : (A ++ b).data.toList = A.data.toList ++ b.data.toList := by simp
 obtain ⟨N, hcn⟩ : ∃ N, A.data.toList.count 10 = N := ⟨_, rfl⟩
 have HCN := Lib.hid hcn
 have hAl : A.data.toList.length ≤ 10001 := by rw [← Lib.size_eq]; exact hlen
 have hbl : b.data.toList.length ≤ 10000 := by rw [← Lib.size_eq]; exact hsb
 have hc := parse_code hp
 have hpq : parseP (A ++ b).data.toList = .error (n, c0) := by rw [hAB]; exact parts_err hend (by rw [List.length_append]; omega) hp
 have H1 := Lib.hid (fun W h => show Calls Tryz.prog 17 #[.string A] W (Ret (.tuple #[.agg #[.slice none 0 0, .slice none 0 0], .int .i64 n, .int .i64 c0]) W) from Parse_err hp W h)
 have H2 := Lib.hid (fun W h => show Calls Tryz.prog 17 #[.string b] W (PAny W) from Parse_some b.data.toList W h)
 have H3 := Lib.hid (fun W h => show Calls Tryz.prog 17 #[.string (A ++ b)] W (Ret (.tuple #[.agg #[.slice none 0 0, .slice none 0 0], .int .i64 n, .int .i64 c0]) W) from Parse_err hpq W h)
 have hc0 : (c0 == 0) = false := by rcases hc with rfl | rfl <;> rfl
 have hc1 : (c0 != 0) = true := by rcases hc with rfl | rfl <;> rfl
 clear hcn hp hend hAB hAl hbl hpq hc
 have HN := Lib.hid hlen
 have HFIN := Lib.hid hfin
 have HW := Lib.hid hw
 have hd : decide ((10000 : Int) < (a.size : Int)) = false := decide_eq_false (by omega)
 have hd2 : decide ((10000 : Int) < (b.size : Int)) = false := decide_eq_false (by omega)
 clear hlen hfin hw
 go_enter Tryz.func10, Tryz.ntmps10
 go_upto_region 3 with fail
 go_cut [36] from 26 to 37 (fun s36 V => s36 = .bool c ∧ V = w)
 case first =>
  rcases HFIN.out with ⟨h0, rfl, rfl⟩ | ⟨m, hm, h0, h1, rfl, rfl⟩ | ⟨m, hm, h0, h1, hA, rfl⟩
  ·have hd3 : decide ((0 : Int) < (A.size : Int)) = false := decide_eq_false (by omega)
   clear HFIN
   go_wp2_with fail
   go_meet
   exact ⟨rfl, rfl⟩
  ·have e1 : IntKind.i64.wrap ((A.size : Int) - 1) = (m : Int) := by
    have : (A.size : Int) - 1 = m := by omega
    rw [this]
    exact IntWalk.i64_in _ (by have := HN.out; omega)
   have hd3 : decide ((0 : Int) < (A.size : Int)) = true := decide_eq_true (by omega)
   have hv : ((A[m].toNat : Int) != 10) = false := by
    have : A[m] = 10 := h1
    rw [this]; rfl
   clear HFIN h0
   go_wp2_with fail
   go_meet
   exact ⟨rfl, rfl⟩
  ·have e1 : IntKind.i64.wrap ((a.size : Int) - 1) = (m : Int) := by
    have : (a.size : Int) - 1 = m := by omega
    rw [this]
    exact IntWalk.i64_in _ (by omega)
   have hd3 : decide ((0 : Int) < (a.size : Int)) = true := decide_eq_true (by omega)
   have hv : ((a[m].toNat : Int) != 10) = true := by
    have : a[m] ≠ 10 := h1
    have h3 : a[m].toNat ≠ 10 := fun h => this (UInt8.toNat_inj.1 h)
    simp only [bne_iff_ne, ne_eq]
    omega
   clear HFIN h0
   go_wp2_with fail
   go_meet
   exact ⟨rfl, rfl⟩
 case rest =>
  obtain ⟨rfl, rfl⟩ := hcut
  clear hd hd2
  go_upto_if 36 with fail
  go_cut [0] from 37 to 39 (fun s0 V => s0 = .string A ∧ V = wc)
  case first =>
   rcases HFIN.out with ⟨h0, rfl, rfl⟩ | ⟨m, hm, h0, h1, rfl, rfl⟩ | ⟨m, hm, h0, h1, rfl, rfl⟩
   ·clear HFIN h0
    go_wp2_with fail
    go_meet
    exact ⟨rfl, rfl⟩
   ·clear HFIN h0 h1
    go_wp2_with fail
    go_meet
    exact ⟨rfl, rfl⟩
   ·clear HFIN h0 h1
    go_wp2_with fail
    go_meet
    exact ⟨rfl, rfl⟩
  obtain ⟨rfl, hwc⟩ := hcut
  subst hwc
  go_wp2_with fail
  go_loop [5, 6] (fun c i => ∃ k : Nat, k ≤ A.size ∧ c = .int .i64 (((A.data.toList.take k).count 10 : Nat) : Int) ∧ i = .int .i64 k) (fun _ i => A.size - (intOf i).toNat)
  case atStart => exact ⟨0, Nat.zero_le _, by simp, rfl⟩
  case round =>
   obtain ⟨k, hk, rfl, rfl⟩ := hrel
   by_cases hlt : k < A.size
   ·have hT : (A.data.toList.take (k + 1)).count 10 = (A.data.toList.take k).count 10 + if A[k] = 10 then 1 else 0 := by
     have hlt' : k < A.data.toList.length := by rw [← Lib.size_eq]; exact hlt
     rw [List.take_add_one, List.getElem?_eq_getElem hlt', List.count_append]
     have : A.data.toList[k] = A[k] := by rw [Array.getElem_toList]; rfl
     rw [this]
     simp [List.count_cons]
    have hb := List.count_le_length (a := (10 : UInt8)) (l := A.data.toList.take k)
    rw [List.length_take] at hb
    have hAs : A.size ≤ 10001 := HN.out
    obtain ⟨n, hn⟩ : ∃ n, (A.data.toList.take k).count 10 = n := ⟨_, rfl⟩
    rw [hn] at hT hb
    have HT := Lib.hid hT
    have hnb : n ≤ 10001 := by have := HN.out; omega
    clear hT hb
    rw [hn]
    clear hn
    by_cases hc : A[k] = 10
    ·have hv : ((A[k].toNat : Int) == 10) = true := by rw [hc]; rfl
     have HC := Lib.hid hc
     have hw1 : IntKind.i64.wrap ((n : Int) + 1) = (n : Int) + 1 := IntWalk.i64_in _ (by omega)
     clear hc
     go_wp2_with fail
     go_round
     case rel => exact ⟨k + 1, by omega, by rw [HT.out, if_pos HC.out]; push_cast; rfl, by go_num⟩
     case measure => simp [intOf]; omega
    ·have hv : ((A[k].toNat : Int) == 10) = false := by
      have h3 : A[k].toNat ≠ 10 := fun h => hc (UInt8.toNat_inj.1 h)
      simp only [beq_eq_false_iff_ne, ne_eq]
      omega
     have HC := Lib.hid hc
     clear hc
     go_wp2_with fail
     go_round
     case rel => exact ⟨k + 1, by omega, by rw [HT.out, if_neg HC.out, Nat.add_zero], by go_num⟩
     case measure => simp [intOf]; omega
   ·have hk2 : A.data.toList.take k = A.data.toList := List.take_of_length_le (by rw [← Lib.size_eq]; omega)
    rw [hk2, HCN.out]
    clear hk2
    have hAs : A.size ≤ 10001 := HN.out
    go_wp2_with fail
    refine (H1.out wc HW.out).mono ?_
    rintro e w1 ⟨rfl, hl1⟩
    have HL1 := Lib.hid hl1
    clear hl1
    go_wp2_with fail
    obtain ⟨V1, hV1⟩ : ∃ V, w1.alloc (.cells #[.slice none 0 0, .slice none 0 0] 45) = V := ⟨_, rfl⟩
    have hlv : Later w1 V1 := by rw [← hV1]; exact (Later.refl w1).alloc _
    have hkv : V1.heap[w1.heap.size]? = some (.cells #[.slice none 0 0, .slice none 0 0] 45 (0, 0)) := by rw [← hV1]; exact (MapKept.heap_alloc w1 _).1
    rw [hV1]
    have HV1 := Lib.hid (And.intro (HL1.out.trans hlv) (And.intro hkv hlv))
    clear hV1 hlv hkv
    refine (H2.out V1 (HW.out.later HV1.out.1)).mono ?_
    rintro e w2 ⟨hl2, aq, n2, cq, bq, m2, dq, k2, c2, rfl⟩
    have HL2 := Lib.hid (HV1.out.1.trans hl2)
    clear hl2
    go_wp2_with fail
    obtain ⟨V2, hV2⟩ : ∃ V, w2.alloc (.cells #[.slice aq n2 cq, .slice bq m2 dq] 45) = V := ⟨_, rfl⟩
    have hlv : Later w2 V2 := by rw [← hV2]; exact (Later.refl w2).alloc _
    have hkv : V2.heap[w2.heap.size]? = some (.cells #[.slice aq n2 cq, .slice bq m2 dq] 45 (0, 0)) := by rw [← hV2]; exact (MapKept.heap_alloc w2 _).1
    rw [hV2]
    have HV2 := Lib.hid (And.intro (HL2.out.trans hlv) (And.intro hkv hlv))
    clear hV2 hlv hkv
    refine (H3.out V2 (HW.out.later HV2.out.1)).mono ?_
    rintro e w3 ⟨rfl, hl3⟩
    have HL3 := Lib.hid (HV2.out.1.trans hl3)
    clear hl3
    go_wp2_with fail
    obtain ⟨V3, hV3⟩ : ∃ V, w3.alloc (.cells #[.slice none 0 0, .slice none 0 0] 45) = V := ⟨_, rfl⟩
    have hlv : Later w3 V3 := by rw [← hV3]; exact (Later.refl w3).alloc _
    have hkv : V3.heap[w3.heap.size]? = some (.cells #[.slice none 0 0, .slice none 0 0] 45 (0, 0)) := by rw [← hV3]; exact (MapKept.heap_alloc w3 _).1
    rw [hV3]
    have HV3 := Lib.hid (And.intro (HL3.out.trans hlv) (And.intro hkv hlv))
    clear hV3 hlv hkv
    have c0 : V3.cell? ⟨w3.heap.size, 0, none⟩ = some (.slice none 0 0) := by rw [Lib.cell_of_heap HV3.out.2.1]; rfl
    have c1 : V3.cell? ⟨w3.heap.size, 1, none⟩ = some (.slice none 0 0) := by rw [Lib.cell_of_heap HV3.out.2.1]; rfl
    go_wp2_with fail
    refine (Same_nil V3).mono ?_
    rintro e w4 ⟨rfl, hl4⟩
    have HL4 := Lib.hid (HV3.out.1.trans hl4)
    clear hl4 c0 c1
    go_wp2_with fail
    refine (awake_is _ (HW.out.later HL4.out)).mono ?_
    rintro e w5 ⟨rfl, hl5⟩
    have HL5 := Lib.hid (HL4.out.trans hl5)
    clear hl5
    go_wp2_with fail
    go_ret
    exact ⟨rfl, HL5.out⟩
set_option maxRecDepth 100000 in
theorem Parts_e2 (a b A : ByteArray) (c : Bool) (hlen : A.size ≤ 10001) (hfin : FinOf a A c) (hend : Ends A.data.toList) (hsa : a.size ≤ 10000) (hsb : b.size ≤ 10000) (x : Scr) (hp : parseP A.data.toList = .ok x) (n : Nat) (c0 : Int) (hq : parseP b.data.toList = .error (n, c0)) (w : World) (hw : Laid w) :
  Calls Tryz.prog 10 #[.string a, .string b] w fun e w' => e = .returned (.bool true) ∧ Later w w' := by
 have hAB : (A ++ b).data.toList = A.data.toList ++ b.data.toList := by simp
 obtain ⟨N, hcn⟩ : ∃ N, A.data.toList.count 10 = N := ⟨_, rfl⟩
 have HCN := Lib.hid hcn
 have hAl : A.data.toList.length ≤ 10001 := by rw [← Lib.size_eq]; exact hlen
 have hbl : b.data.toList.length ≤ 10000 := by rw [← Lib.size_eq]; exact hsb
 have hc := parse_code hq
 have hn := parse_at hq
 have hcl := List.count_le_length (a := (10 : UInt8)) (l := A.data.toList)
 obtain ⟨M, hM⟩ : ∃ M, N + n = M := ⟨_, rfl⟩
 have hpq : parseP (A ++ b).data.toList = .error (M, c0) := by rw [hAB, parts_ok hend hAl hbl hp, hq, ← hM, ← hcn]
 have HNB := Lib.hid (show N + n = M ∧ N ≤ 10001 ∧ n ≤ 10001 by omega)
 have H1 := Lib.hid (fun W h => show Calls Tryz.prog 17 #[.string A] W (POk x W) from Parse_ok hp W h)
 have H2 := Lib.hid (fun W h => show Calls Tryz.prog 17 #[.string b] W (Ret (.tuple #[.agg #[.slice none 0 0, .slice none 0 0], .int .i64 n, .int .i64 c0]) W) from Parse_err hq W h)
 have H3 := Lib.hid (fun W h => show Calls Tryz.prog 17 #[.string (A ++ b)] W (Ret (.tuple #[.agg #[.slice none 0 0, .slice none 0 0], .int .i64 (M : Int), .int .i64 c0]) W) from Parse_err hpq W h)
 have hc0 : (c0 == 0) = false := by rcases hc with rfl | rfl <;> rfl
 have hc1 : (c0 != 0) = true := by rcases hc with rfl | rfl <;> rfl
 clear hcn hp hend hAB hAl hbl hpq hc hq hn hcl hM
 have HN := Lib.hid hlen
 have HFIN := Lib.hid hfin
 have HW := Lib.hid hw
 have hd : decide ((10000 : Int) < (a.size : Int)) = false := decide_eq_false (by omega)
 have hd2 : decide ((10000 : Int) < (b.size : Int)) = false := decide_eq_false (by omega)
 clear hlen hfin hw
 go_enter Tryz.func10, Tryz.ntmps10
 go_upto_region 3 with fail
 go_cut [36] from 26 to 37 (fun s36 V => s36 = .bool c ∧ V = w)
 case first =>
  rcases HFIN.out with ⟨h0, rfl, rfl⟩ | ⟨m, hm, h0, h1, rfl, rfl⟩ | ⟨m, hm, h0, h1, hA, rfl⟩
  ·have hd3 : decide ((0 : Int) < (A.size : Int)) = false := decide_eq_false (by omega)
   clear HFIN
   go_wp2_with fail
   go_meet
   exact ⟨rfl, rfl⟩
  ·have e1 : IntKind.i64.wrap ((A.size : Int) - 1) = (m : Int) := by
    have : (A.size : Int) - 1 = m := by omega
    rw [this]
    exact IntWalk.i64_in _ (by have := HN.out; omega)
   have hd3 : decide ((0 : Int) < (A.size : Int)) = true := decide_eq_true (by omega)
   have hv : ((A[m].toNat : Int) != 10) = false := by
    have : A[m] = 10 := h1
    rw [this]; rfl
   clear HFIN h0
   go_wp2_with fail
   go_meet
   exact ⟨rfl, rfl⟩
  ·have e1 : IntKind.i64.wrap ((a.size : Int) - 1) = (m : Int) := by
    have : (a.size : Int) - 1 = m := by omega
    rw [this]
    exact IntWalk.i64_in _ (by omega)
   have hd3 : decide ((0 : Int) < (a.size : Int)) = true := decide_eq_true (by omega)
   have hv : ((a[m].toNat : Int) != 10) = true := by
    have : a[m] ≠ 10 := h1
    have h3 : a[m].toNat ≠ 10 := fun h => this (UInt8.toNat_inj.1 h)
    simp only [bne_iff_ne, ne_eq]
    omega
   clear HFIN h0
   go_wp2_with fail
   go_meet
   exact ⟨rfl, rfl⟩
 case rest =>
  obtain ⟨rfl, rfl⟩ := hcut
  clear hd hd2
  go_upto_if 36 with fail
  go_cut [0] from 37 to 39 (fun s0 V => s0 = .string A ∧ V = wc)
  case first =>
   rcases HFIN.out with ⟨h0, rfl, rfl⟩ | ⟨m, hm, h0, h1, rfl, rfl⟩ | ⟨m, hm, h0, h1, rfl, rfl⟩
   ·clear HFIN h0
    go_wp2_with fail
    go_meet
    exact ⟨rfl, rfl⟩
   ·clear HFIN h0 h1
    go_wp2_with fail
    go_meet
    exact ⟨rfl, rfl⟩
   ·clear HFIN h0 h1
    go_wp2_with fail
    go_meet
    exact ⟨rfl, rfl⟩
  obtain ⟨rfl, hwc⟩ := hcut
  subst hwc
  go_wp2_with fail
  go_loop [5, 6] (fun c i => ∃ k : Nat, k ≤ A.size ∧ c = .int .i64 (((A.data.toList.take k).count 10 : Nat) : Int) ∧ i = .int .i64 k) (fun _ i => A.size - (intOf i).toNat)
  case atStart => exact ⟨0, Nat.zero_le _, by simp, rfl⟩
  case round =>
   obtain ⟨k, hk, rfl, rfl⟩ := hrel
   by_cases hlt : k < A.size
   ·have hT : (A.data.toList.take (k + 1)).count 10 = (A.data.toList.take k).count 10 + if A[k] = 10 then 1 else 0 := by
     have hlt' : k < A.data.toList.length := by rw [← Lib.size_eq]; exact hlt
     rw [List.take_add_one, List.getElem?_eq_getElem hlt', List.count_append]
     have : A.data.toList[k] = A[k] := by rw [Array.getElem_toList]; rfl
     rw [this]
     simp [List.count_cons]
    have hb := List.count_le_length (a := (10 : UInt8)) (l := A.data.toList.take k)
    rw [List.length_take] at hb
    have hAs : A.size ≤ 10001 := HN.out
    obtain ⟨n, hn⟩ : ∃ n, (A.data.toList.take k).count 10 = n := ⟨_, rfl⟩
    rw [hn] at hT hb
    have HT := Lib.hid hT
    have hnb : n ≤ 10001 := by have := HN.out; omega
    clear hT hb
    rw [hn]
    clear hn
    by_cases hc : A[k] = 10
    ·have hv : ((A[k].toNat : Int) == 10) = true := by rw [hc]; rfl
     have HC := Lib.hid hc
     have hw1 : IntKind.i64.wrap ((n : Int) + 1) = (n : Int) + 1 := IntWalk.i64_in _ (by omega)
     clear hc
     go_wp2_with fail
     go_round
     case rel => exact ⟨k + 1, by omega, by rw [HT.out, if_pos HC.out]; push_cast; rfl, by go_num⟩
     case measure => simp [intOf]; omega
    ·have hv : ((A[k].toNat : Int) == 10) = false := by
      have h3 : A[k].toNat ≠ 10 := fun h => hc (UInt8.toNat_inj.1 h)
      simp only [beq_eq_false_iff_ne, ne_eq]
      omega
     have HC := Lib.hid hc
     clear hc
     go_wp2_with fail
     go_round
     case rel => exact ⟨k + 1, by omega, by rw [HT.out, if_neg HC.out, Nat.add_zero], by go_num⟩
     case measure => simp [intOf]; omega
   ·have hk2 : A.data.toList.take k = A.data.toList := List.take_of_length_le (by rw [← Lib.size_eq]; omega)
    rw [hk2, HCN.out]
    clear hk2
    have hAs : A.size ≤ 10001 := HN.out
    go_wp2_with fail
    refine (H1.out wc HW.out).mono ?_
    rintro e w1 ⟨hl1, ao, ca, bo, cb, rfl, hE, hP⟩
    have HL1 := Lib.hid hl1
    have HEP1 := Lib.hid (And.intro hE hP)
    clear hl1 hE hP
    go_wp2_with fail
    obtain ⟨V1, hV1⟩ : ∃ V, w1.alloc (.cells #[.slice ao x.1.length ca, .slice bo x.2.length cb] 45) = V := ⟨_, rfl⟩
    have hlv : Later w1 V1 := by rw [← hV1]; exact (Later.refl w1).alloc _
    have hkv : V1.heap[w1.heap.size]? = some (.cells #[.slice ao x.1.length ca, .slice bo x.2.length cb] 45 (0, 0)) := by rw [← hV1]; exact (MapKept.heap_alloc w1 _).1
    rw [hV1]
    have HV1 := Lib.hid (And.intro (HL1.out.trans hlv) (And.intro hkv hlv))
    clear hV1 hlv hkv
    refine (H2.out V1 (HW.out.later HV1.out.1)).mono ?_
    rintro e w2 ⟨rfl, hl2⟩
    have HL2 := Lib.hid (HV1.out.1.trans hl2)
    clear hl2
    go_wp2_with fail
    obtain ⟨V2, hV2⟩ : ∃ V, w2.alloc (.cells #[.slice none 0 0, .slice none 0 0] 45) = V := ⟨_, rfl⟩
    have hlv : Later w2 V2 := by rw [← hV2]; exact (Later.refl w2).alloc _
    have hkv : V2.heap[w2.heap.size]? = some (.cells #[.slice none 0 0, .slice none 0 0] 45 (0, 0)) := by rw [← hV2]; exact (MapKept.heap_alloc w2 _).1
    rw [hV2]
    have HV2 := Lib.hid (And.intro (HL2.out.trans hlv) (And.intro hkv hlv))
    clear hV2 hlv hkv
    refine (H3.out V2 (HW.out.later HV2.out.1)).mono ?_
    rintro e w3 ⟨rfl, hl3⟩
    have HL3 := Lib.hid (HV2.out.1.trans hl3)
    clear hl3
    have hw3 : IntKind.i64.wrap ((N : Int) + (n : Int)) = (M : Int) := by
     have h : (N : Int) + (n : Int) = (M : Int) := by have := HNB.out; omega
     rw [h]
     exact IntWalk.i64_in _ (by have := HNB.out; omega)
    go_wp2_with fail
    obtain ⟨V3, hV3⟩ : ∃ V, w3.alloc (.cells #[.slice none 0 0, .slice none 0 0] 45) = V := ⟨_, rfl⟩
    have hlv : Later w3 V3 := by rw [← hV3]; exact (Later.refl w3).alloc _
    have hkv : V3.heap[w3.heap.size]? = some (.cells #[.slice none 0 0, .slice none 0 0] 45 (0, 0)) := by rw [← hV3]; exact (MapKept.heap_alloc w3 _).1
    rw [hV3]
    have HV3 := Lib.hid (And.intro (HL3.out.trans hlv) (And.intro hkv hlv))
    clear hV3 hlv hkv
    have c0 : V3.cell? ⟨w3.heap.size, 0, none⟩ = some (.slice none 0 0) := by rw [Lib.cell_of_heap HV3.out.2.1]; rfl
    have c1 : V3.cell? ⟨w3.heap.size, 1, none⟩ = some (.slice none 0 0) := by rw [Lib.cell_of_heap HV3.out.2.1]; rfl
    go_wp2_with fail
    refine (Same_nil V3).mono ?_
    rintro e w4 ⟨rfl, hl4⟩
    have HL4 := Lib.hid (HV3.out.1.trans hl4)
    clear hl4 c0 c1
    go_wp2_with fail
    refine (awake_is _ (HW.out.later HL4.out)).mono ?_
    rintro e w5 ⟨rfl, hl5⟩
    have HL5 := Lib.hid (HL4.out.trans hl5)
    clear hl5
    go_wp2_with fail
    go_ret
    exact ⟨rfl, HL5.out⟩
set_option maxRecDepth 100000 in
theorem Parts_e3 (a b A : ByteArray) (c : Bool) (hlen : A.size ≤ 10001) (hfin : FinOf a A c) (hend : Ends A.data.toList) (hsa : a.size ≤ 10000) (hsb : b.size ≤ 10000) (x y : Scr) (hp : parseP A.data.toList = .ok x) (hq : parseP b.data.toList = .ok y) (w : World) (hw : Laid w) :
  Calls Tryz.prog 10 #[.string a, .string b] w fun e w' => e = .returned (.bool true) ∧ Later w w' := by
 have hAB : (A ++ b).data.toList = A.data.toList ++ b.data.toList := by simp
 obtain ⟨N, hcn⟩ : ∃ N, A.data.toList.count 10 = N := ⟨_, rfl⟩
 have HCN := Lib.hid hcn
 have hAl : A.data.toList.length ≤ 10001 := by rw [← Lib.size_eq]; exact hlen
 have hbl : b.data.toList.length ≤ 10000 := by rw [← Lib.size_eq]; exact hsb
 have hpq : parseP (A ++ b).data.toList = .ok (plusS x y) := by rw [hAB, parts_ok hend hAl hbl hp, hq]
 have H1 := Lib.hid (fun W h => show Calls Tryz.prog 17 #[.string A] W (POk x W) from Parse_ok hp W h)
 have H2 := Lib.hid (fun W h => show Calls Tryz.prog 17 #[.string b] W (POk y W) from Parse_ok hq W h)
 have H3 := Lib.hid (fun W h => show Calls Tryz.prog 17 #[.string (A ++ b)] W (POk (plusS x y) W) from Parse_ok hpq W h)
 have H4 := Lib.hid (fun ev pv eu pu W hv hv2 hu hu2 => Same_of hpq ev pv eu pu W hv hv2 hu hu2)
 have hi59 : (Tryz.prog.info? 59).map (fun i => (i.zero, i.size, i.bytes)) = some (some (.agg #[.int .i64 0, .int .i64 0, .int .i64 0, .int .u32 0, .int .u8 0, .string ⟨#[]⟩, .string ⟨#[]⟩, .string ⟨#[]⟩, .int .i64 0, .int .i64 0, .int .u64 0, .int .u64 0, .int .u8 0]), 13, 120) := by kernel_rfl
 have hi3 : (Tryz.prog.info? 3).map (fun i => (i.zero, i.size, i.bytes)) = some (some (.int .i64 0), 1, 8) := by kernel_rfl
 have HI0 := Lib.hid (info_parts hi59)
 have HI1 := Lib.hid (info_parts hi3)
 have HB1 := Lib.hid (big_le (s := x) (by rw [parse_big hp]; simp))
 have HB2 := Lib.hid (big_le (s := y) (by rw [parse_big hq]; simp))
 clear hcn hp hend hAB hAl hbl hpq hq hi59 hi3
 have HN := Lib.hid hlen
 have HFIN := Lib.hid hfin
 have HW := Lib.hid hw
 have hd : decide ((10000 : Int) < (a.size : Int)) = false := decide_eq_false (by omega)
 have hd2 : decide ((10000 : Int) < (b.size : Int)) = false := decide_eq_false (by omega)
 clear hlen hfin hw
 go_enter Tryz.func10, Tryz.ntmps10
 go_upto_region 3 with fail
 go_cut [36] from 26 to 37 (fun s36 V => s36 = .bool c ∧ V = w)
 case first =>
  rcases HFIN.out with ⟨h0, rfl, rfl⟩ | ⟨m, hm, h0, h1, rfl, rfl⟩ | ⟨m, hm, h0, h1, hA, rfl⟩
  ·have hd3 : decide ((0 : Int) < (A.size : Int)) = false := decide_eq_false (by omega)
   clear HFIN
   go_wp2_with fail
   go_meet
   exact ⟨rfl, rfl⟩
  ·have e1 : IntKind.i64.wrap ((A.size : Int) - 1) = (m : Int) := by
    have : (A.size : Int) - 1 = m := by omega
    rw [this]
    exact IntWalk.i64_in _ (by have := HN.out; omega)
   have hd3 : decide ((0 : Int) < (A.size : Int)) = true := decide_eq_true (by omega)
   have hv : ((A[m].toNat : Int) != 10) = false := by
    have : A[m] = 10 := h1
    rw [this]; rfl
   clear HFIN h0
   go_wp2_with fail
   go_meet
   exact ⟨rfl, rfl⟩
  ·have e1 : IntKind.i64.wrap ((a.size : Int) - 1) = (m : Int) := by
    have : (a.size : Int) - 1 = m := by omega
    rw [this]
    exact IntWalk.i64_in _ (by omega)
   have hd3 : decide ((0 : Int) < (a.size : Int)) = true := decide_eq_true (by omega)
   have hv : ((a[m].toNat : Int) != 10) = true := by
    have : a[m] ≠ 10 := h1
    have h3 : a[m].toNat ≠ 10 := fun h => this (UInt8.toNat_inj.1 h)
    simp only [bne_iff_ne, ne_eq]
    omega
   clear HFIN h0
   go_wp2_with fail
   go_meet
   exact ⟨rfl, rfl⟩
 case rest =>
  obtain ⟨rfl, rfl⟩ := hcut
  clear hd hd2
  go_upto_if 36 with fail
  go_cut [0] from 37 to 39 (fun s0 V => s0 = .string A ∧ V = wc)
  case first =>
   rcases HFIN.out with ⟨h0, rfl, rfl⟩ | ⟨m, hm, h0, h1, rfl, rfl⟩ | ⟨m, hm, h0, h1, rfl, rfl⟩
   ·clear HFIN h0
    go_wp2_with fail
    go_meet
    exact ⟨rfl, rfl⟩
   ·clear HFIN h0 h1
    go_wp2_with fail
    go_meet
    exact ⟨rfl, rfl⟩
   ·clear HFIN h0 h1
    go_wp2_with fail
    go_meet
    exact ⟨rfl, rfl⟩
  obtain ⟨rfl, hwc⟩ := hcut
  subst hwc
  go_wp2_with fail
  go_loop [5, 6] (fun c i => ∃ k : Nat, k ≤ A.size ∧ c = .int .i64 (((A.data.toList.take k).count 10 : Nat) : Int) ∧ i = .int .i64 k) (fun _ i => A.size - (intOf i).toNat)
  case atStart => exact ⟨0, Nat.zero_le _, by simp, rfl⟩
  case round =>
   obtain ⟨k, hk, rfl, rfl⟩ := hrel
   by_cases hlt : k < A.size
   ·have hT : (A.data.toList.take (k + 1)).count 10 = (A.data.toList.take k).count 10 + if A[k] = 10 then 1 else 0 := by
     have hlt' : k < A.data.toList.length := by rw [← Lib.size_eq]; exact hlt
     rw [List.take_add_one, List.getElem?_eq_getElem hlt', List.count_append]
     have : A.data.toList[k] = A[k] := by rw [Array.getElem_toList]; rfl
     rw [this]
     simp [List.count_cons]
    have hb := List.count_le_length (a := (10 : UInt8)) (l := A.data.toList.take k)
    rw [List.length_take] at hb
    have hAs : A.size ≤ 10001 := HN.out
    obtain ⟨n, hn⟩ : ∃ n, (A.data.toList.take k).count 10 = n := ⟨_, rfl⟩
    rw [hn] at hT hb
    have HT := Lib.hid hT
    have hnb : n ≤ 10001 := by have := HN.out; omega
    clear hT hb
    rw [hn]
    clear hn
    by_cases hc : A[k] = 10
    ·have hv : ((A[k].toNat : Int) == 10) = true := by rw [hc]; rfl
     have HC := Lib.hid hc
     have hw1 : IntKind.i64.wrap ((n : Int) + 1) = (n : Int) + 1 := IntWalk.i64_in _ (by omega)
     clear hc
     go_wp2_with fail
     go_round
     case rel => exact ⟨k + 1, by omega, by rw [HT.out, if_pos HC.out]; push_cast; rfl, by go_num⟩
     case measure => simp [intOf]; omega
    ·have hv : ((A[k].toNat : Int) == 10) = false := by
      have h3 : A[k].toNat ≠ 10 := fun h => hc (UInt8.toNat_inj.1 h)
      simp only [beq_eq_false_iff_ne, ne_eq]
      omega
     have HC := Lib.hid hc
     clear hc
     go_wp2_with fail
     go_round
     case rel => exact ⟨k + 1, by omega, by rw [HT.out, if_neg HC.out, Nat.add_zero], by go_num⟩
     case measure => simp [intOf]; omega
   ·have hk2 : A.data.toList.take k = A.data.toList := List.take_of_length_le (by rw [← Lib.size_eq]; omega)
    rw [hk2, HCN.out]
    clear hk2
    have hAs : A.size ≤ 10001 := HN.out
    go_wp2_with fail
    refine (H1.out wc HW.out).mono ?_
    rintro e w1 ⟨hl1, ao, ca, bo, cb, rfl, hE, hP⟩
    have HL1 := Lib.hid hl1
    have HEP1 := Lib.hid (And.intro hE hP)
    clear hl1 hE hP
    go_wp2_with fail
    obtain ⟨V1, hV1⟩ : ∃ V, w1.alloc (.cells #[.slice ao x.1.length ca, .slice bo x.2.length cb] 45) = V := ⟨_, rfl⟩
    have hlv : Later w1 V1 := by rw [← hV1]; exact (Later.refl w1).alloc _
    have hkv : V1.heap[w1.heap.size]? = some (.cells #[.slice ao x.1.length ca, .slice bo x.2.length cb] 45 (0, 0)) := by rw [← hV1]; exact (MapKept.heap_alloc w1 _).1
    rw [hV1]
    have HV1 := Lib.hid (And.intro (HL1.out.trans hlv) (And.intro hkv hlv))
    clear hV1 hlv hkv
    refine (H2.out V1 (HW.out.later HV1.out.1)).mono ?_
    rintro e w2 ⟨hl2, aq, cq, bq, dq, rfl, hE, hP⟩
    have HL2 := Lib.hid (HV1.out.1.trans hl2)
    have HL12 := Lib.hid hl2
    have HEP2 := Lib.hid (And.intro hE hP)
    clear hl2 hE hP
    go_wp2_with fail
    obtain ⟨V2, hV2⟩ : ∃ V, w2.alloc (.cells #[.slice aq y.1.length cq, .slice bq y.2.length dq] 45) = V := ⟨_, rfl⟩
    have hlv : Later w2 V2 := by rw [← hV2]; exact (Later.refl w2).alloc _
    have hkv : V2.heap[w2.heap.size]? = some (.cells #[.slice aq y.1.length cq, .slice bq y.2.length dq] 45 (0, 0)) := by rw [← hV2]; exact (MapKept.heap_alloc w2 _).1
    rw [hV2]
    have HV2 := Lib.hid (And.intro (HL2.out.trans hlv) (And.intro hkv hlv))
    clear hV2 hlv hkv
    refine (H3.out V2 (HW.out.later HV2.out.1)).mono ?_
    rintro e w3 ⟨hl3, ar, cr, br, dr, rfl, hE, hP⟩
    have HL3 := Lib.hid (HV2.out.1.trans hl3)
    have HL23 := Lib.hid hl3
    have HEP3 := Lib.hid (And.intro hE hP)
    clear hl3 hE hP
    go_wp2_with fail
    obtain ⟨U, hU⟩ : ∃ U, (w3.alloc (.cells #[.slice ar (plusS x y).1.length cr, .slice br (plusS x y).2.length dr] 45)).alloc (.cells #[.slice none 0 0, .slice none 0 0] 45) = U := ⟨_, rfl⟩
    have hlU : Later w3 U := by rw [← hU]; exact ((Later.refl w3).alloc _).alloc _
    have hk3 : U.heap[w3.heap.size]? = some (.cells #[.slice ar (plusS x y).1.length cr, .slice br (plusS x y).2.length dr] 45 (0, 0)) := by
     rw [← hU]
     have h := (MapKept.heap_alloc w3 (.cells #[.slice ar (plusS x y).1.length cr, .slice br (plusS x y).2.length dr] 45)).1
     exact (((Later.refl _).alloc _).block _ (Array.getElem?_eq_some_iff.1 h).1).trans h
    have hs4 : (w3.alloc (.cells #[.slice ar (plusS x y).1.length cr, .slice br (plusS x y).2.length dr] 45)).heap.size = w3.heap.size + 1 := by show (w3.heap.push _).size = _; simp
    have hk4 : U.heap[w3.heap.size + 1]? = some (.cells #[.slice none 0 0, .slice none 0 0] 45 (0, 0)) := by rw [← hU, ← hs4]; exact (MapKept.heap_alloc _ _).1
    rw [hU]
    have hl1U : Later V1 U := (HL12.out.trans (HV2.out.2.2.trans HL23.out)).trans hlU
    have hl2U : Later V2 U := HL23.out.trans hlU
    have hk1 := (hl1U.block w1.heap.size (Array.getElem?_eq_some_iff.1 HV1.out.2.1).1).trans HV1.out.2.1
    have hk2 := (hl2U.block w2.heap.size (Array.getElem?_eq_some_iff.1 HV2.out.2.1).1).trans HV2.out.2.1
    have hz12 := (HV1.out.2.2.trans HL12.out).size
    have hz23 := (HV2.out.2.2.trans HL23.out).size
    have hz03 := HL3.out.size
    have hl13 := HV1.out.2.2.trans (HL12.out.trans (HV2.out.2.2.trans HL23.out))
    have hl23 := HV2.out.2.2.trans HL23.out
    have HE3 := Lib.hid (And.intro (HEP1.out.1.later hl13) (And.intro (HEP1.out.2.later hl13) (And.intro (HEP2.out.1.later hl23) (And.intro (HEP2.out.2.later hl23) HEP3.out))))
    have HEX := Lib.hid (HE3.out.1.later hlU)
    have HEY := Lib.hid (HE3.out.2.2.1.later hlU)
    have HL3U := Lib.hid hlU
    have HB34 := Lib.hid (show w3.heap.size ≤ w3.heap.size + 1 by omega)
    have hlw : Later wc U := HL3.out.trans hlU
    obtain ⟨B4, hB4⟩ : ∃ B, w3.heap.size + 1 = B := ⟨_, rfl⟩
    rw [hB4] at hk4 HB34 ⊢
    obtain ⟨B3, hB3⟩ : ∃ B, w3.heap.size = B := ⟨_, rfl⟩
    obtain ⟨B2, hB2⟩ : ∃ B, w2.heap.size = B := ⟨_, rfl⟩
    obtain ⟨B1, hB1⟩ : ∃ B, w1.heap.size = B := ⟨_, rfl⟩
    rw [hB3] at hk3 hB4 hz23 hz03 ⊢
    rw [hB2] at hk2 hz12 hz23 ⊢
    rw [hB1] at hk1 hz12 ⊢
    have HBB := Lib.hid (show B1 ≤ B2 ∧ B2 ≤ B3 ∧ B3 + 1 = B4 ∧ wc.heap.size ≤ B4 from ⟨hz12, hz23, hB4, by omega⟩)
    have HK0 := Lib.hid hk4
    have HKU := Lib.hid (And.intro hk1 (And.intro hk2 hk3))
    have HLU := Lib.hid hlw
    have HC0 := Lib.hid (show U.cell? ⟨B4, 0, none⟩ = some (.slice none 0 0) ∧ U.cell? ⟨B1, 0, none⟩ = some (.slice ao x.1.length ca) ∧ U.cell? ⟨B2, 0, none⟩ = some (.slice aq y.1.length cq) from ⟨by rw [Lib.cell_of_heap hk4]; rfl, by rw [Lib.cell_of_heap hk1]; rfl, by rw [Lib.cell_of_heap hk2]; rfl⟩)
    clear hU hlU hk3 hs4 hk4 hl1U hl2U hk1 hk2 hz12 hz23 hz03 hlw hB4 hB3 hB2 hB1 hl13 hl23
    refine wp_region_iv mixedS (fun D' a' W' => ∃ y0 y1 y2 y3 y4 y5 y6 y7 y8, a' = ⟨#[Value.string A, Value.string b, undef, undef, Value.bool false, Value.int IntKind.i64 ↑N, Value.int IntKind.i64 ↑k, Value.pointer (some { block := B1, off := 0 }), Value.int IntKind.i64 0, Value.int IntKind.i64 0, Value.pointer (some { block := B2, off := 0 }), Value.int IntKind.i64 0, Value.int IntKind.i64 0, Value.pointer (some { block := B3, off := 0 }), Value.int IntKind.i64 0, Value.int IntKind.i64 0, Value.pointer (some { block := B4, off := 0 }), Value.string a, Value.int IntKind.i64 ↑a.size, Value.bool false, Value.bool false, Value.string b, Value.int IntKind.i64 ↑b.size, Value.bool false, Value.bool false, undef, u26, u27, u28, u29, u30, u31, u32, u33, u34, u35, Value.bool c, u37, u38, Value.int IntKind.i64 ↑k, Value.string A, Value.int IntKind.i64 ↑A.size, Value.bool false, u43, u44, u45, u46, u47, u48, u49, u50, Value.tuple #[Value.agg #[Value.slice ao x.fst.length ca, Value.slice bo x.snd.length cb], Value.int IntKind.i64 0, Value.int IntKind.i64 0], Value.string A, Value.tuple #[Value.agg #[Value.slice ao x.fst.length ca, Value.slice bo x.snd.length cb], Value.int IntKind.i64 0, Value.int IntKind.i64 0], Value.agg #[Value.slice ao x.fst.length ca, Value.slice bo x.snd.length cb], Value.int IntKind.i64 0, Value.int IntKind.i64 0, Value.tuple #[Value.agg #[Value.slice aq y.fst.length cq, Value.slice bq y.snd.length dq], Value.int IntKind.i64 0, Value.int IntKind.i64 0], Value.string b, Value.tuple #[Value.agg #[Value.slice aq y.fst.length cq, Value.slice bq y.snd.length dq], Value.int IntKind.i64 0, Value.int IntKind.i64 0], Value.agg #[Value.slice aq y.fst.length cq, Value.slice bq y.snd.length dq], Value.int IntKind.i64 0, Value.int IntKind.i64 0, Value.tuple #[Value.agg #[Value.slice ar (plusS x y).fst.length cr, Value.slice br (plusS x y).snd.length dr], Value.int IntKind.i64 0, Value.int IntKind.i64 0], Value.string A, Value.string b, Value.string (A ++ b), Value.tuple #[Value.agg #[Value.slice ar (plusS x y).fst.length cr, Value.slice br (plusS x y).snd.length dr], Value.int IntKind.i64 0, Value.int IntKind.i64 0], Value.agg #[Value.slice ar (plusS x y).fst.length cr, Value.slice br (plusS x y).snd.length dr], Value.int IntKind.i64 0, Value.int IntKind.i64 0, Value.bool false, Value.int IntKind.i64 0, Value.bool false, undef, undef, undef, undef, undef, undef, undef, undef, undef, undef, undef, undef, undef, undef, undef, undef, Value.bool false, Value.int IntKind.i64 0, Value.bool false, undef, undef, undef, undef, undef, undef, undef, undef, undef, undef, undef, undef, undef, undef, undef, undef, undef, undef, y0, y1, y2, y3, y4, y5, y6, y7, y8, undef, undef, undef, undef, undef, undef, undef, undef, undef, undef, undef, undef, undef, undef, undef, undef, undef, undef, undef, undef, undef, undef, undef], []⟩ ∧ (D' 9 = false → Later U W') ∧ (D' 4 = true → D' 7 = false → W'.ownsRow U.heap.size 59 13 y4 x.1.length (entC x.1)) ∧ (D' 7 = true → D' 9 = false → W'.ownsRow U.heap.size 59 13 y7 (x.1.length + y.1.length) (entC x.1 ++ entC y.1)) ∧ (D' 9 = true → ∃ V a9 n9 c9, y7 = .slice a9 n9 c9 ∧ Later U V ∧ V.ownsRow U.heap.size 59 13 y7 (x.1.length + y.1.length) (entC x.1 ++ entC y.1) ∧ W' = V.setCell ⟨B4, 0, none⟩ y7) ∧ (D' 0 = true → y0 = .pointer (some ⟨B4, 0, none⟩)) ∧ (D' 1 = true → y1 = .slice none 0 0) ∧ (D' 2 = true → y2 = .pointer (some ⟨B1, 0, none⟩)) ∧ (D' 3 = true → y3 = .slice ao x.1.length ca) ∧ (D' 5 = true → y5 = .pointer (some ⟨B2, 0, none⟩)) ∧ (D' 6 = true → y6 = .slice aq y.1.length cq) ∧ (D' 8 = true → y8 = .pointer (some ⟨B4, 0, none⟩))) (by kernel_rfl) ?_ ?_ ?_
    ·exact ⟨undef, undef, undef, undef, undef, undef, undef, undef, undef, rfl, (fun _ => (Later.refl U).drew), (fun h => by cases h), (fun h => by cases h), (fun h => by cases h), (fun h => by cases h), (fun h => by cases h), (fun h => by cases h), (fun h => by cases h), (fun h => by cases h), (fun h => by cases h), (fun h => by cases h)⟩
    ·intro i D' a' W' hi hDi hdep hcl hI
     obtain ⟨y0, y1, y2, y3, y4, y5, y6, y7, y8, rfl, gL, g4, g7, g9, f0, f1, f2, f3, f5, f6, f8⟩ := hI
     have hi' : i = 0 ∨ i = 1 ∨ i = 2 ∨ i = 3 ∨ i = 4 ∨ i = 5 ∨ i = 6 ∨ i = 7 ∨ i = 8 ∨ i = 9 := by
      have : i < 10 := hi
      omega
     rcases hi' with rfl | rfl | rfl | rfl | rfl | rfl | rfl | rfl | rfl | rfl
     ·skip
      refine wpOp_step rfl (fun K' hK' => ?_)
      rw [if_pos (by rfl)]
      go_simp
      exact hK' _ _ ⟨_, y1, y2, y3, y4, y5, y6, y7, y8, rfl, gL, g4, g7, g9, (fun _ => rfl), f1, f2, f3, f5, f6, f8⟩
     ·have q0 := f0 (hdep 0 (by kernel_rfl))
      subst q0
      have h9 := hcl.no hDi (k := 9) (by decide) (by kernel_rfl)
      have hl := gL h9
      have cc : W'.cell? ⟨B4, 0, none⟩ = some (.slice none 0 0) := cell_at hl HC0.out.1 (cell_lt HC0.out.1)
      refine wpOp_step rfl (fun K' hK' => ?_)
      rw [if_pos (by rfl)]
      go_simp
      exact hK' _ _ ⟨_, _, y2, y3, y4, y5, y6, y7, y8, rfl, gL, g4, g7, g9, (fun _ => rfl), (fun _ => rfl), f2, f3, f5, f6, f8⟩
     ·skip
      refine wpOp_step rfl (fun K' hK' => ?_)
      rw [if_pos (by rfl)]
      go_simp
      exact hK' _ _ ⟨y0, y1, _, y3, y4, y5, y6, y7, y8, rfl, gL, g4, g7, g9, f0, f1, (fun _ => rfl), f3, f5, f6, f8⟩
     ·have q2 := f2 (hdep 2 (by kernel_rfl))
      subst q2
      have h9 := hcl.no hDi (k := 9) (by decide) (by kernel_rfl)
      have hl := gL h9
      have cc : W'.cell? ⟨B1, 0, none⟩ = some (.slice ao x.1.length ca) := cell_at hl HC0.out.2.1 (cell_lt HC0.out.2.1)
      refine wpOp_step rfl (fun K' hK' => ?_)
      rw [if_pos (by rfl)]
      go_simp
      exact hK' _ _ ⟨y0, y1, _, _, y4, y5, y6, y7, y8, rfl, gL, g4, g7, g9, f0, f1, (fun _ => rfl), (fun _ => rfl), f5, f6, f8⟩
     ·have q1 := f1 (hdep 1 (by kernel_rfl))
      have q3 := f3 (hdep 3 (by kernel_rfl))
      subst q1
      subst q3
      have h9 := hcl.no hDi (k := 9) (by decide) (by kernel_rfl)
      have h7 := hcl.no hDi (k := 7) (by decide) (by kernel_rfl)
      have hl := gL h9
      obtain ⟨i0, hi0, hz0, hz1, hz2⟩ := HI0.out
      refine wpOp_step rfl (fun K' hK' => ?_)
      rw [if_pos (by rfl)]
      refine wp_append_list _ (.tmp 112) (.tmp 114) 42 rfl U.heap.size 59 i0 _ 13 120 Tryz.underlying42 hi0 hz0 hz1 hz2 rfl (by decide) (.slice none 0 0) 0 [] rfl (World.ownsRow_nil _ _ _ _) ao x.1.length ca (entC x.1) rfl (entC_len _) ((HEX.out.later hl).src) (entC_one _) ?_ ?_ hl.size ?_
      ·have := HB1.out; unfold maxLen; omega
      ·have := HB1.out; omega
      ·intro v8 W8 hown hg
       have hown' : W8.ownsRow U.heap.size 59 13 v8 x.1.length (entC x.1) := by simpa using hown
       have hl8 : Later U W8 := later_grown hl (World.ownsRow_nil _ _ 59 13) hg
       exact hK' _ _ ⟨y0, _, y2, _, _, y5, y6, y7, y8, rfl, (fun _ => hl8), (fun _ _ => hown'), (fun h => absurd (show D' 7 = true from h) (by rw [h7]; decide)), (fun h => absurd (show D' 9 = true from h) (by rw [h9]; decide)), f0, (fun _ => rfl), f2, (fun _ => rfl), f5, f6, f8⟩
     ·skip
      refine wpOp_step rfl (fun K' hK' => ?_)
      rw [if_pos (by rfl)]
      go_simp
      exact hK' _ _ ⟨y0, y1, y2, y3, y4, _, y6, y7, y8, rfl, gL, g4, g7, g9, f0, f1, f2, f3, (fun _ => rfl), f6, f8⟩
     ·have q5 := f5 (hdep 5 (by kernel_rfl))
      subst q5
      have h9 := hcl.no hDi (k := 9) (by decide) (by kernel_rfl)
      have hl := gL h9
      have cc : W'.cell? ⟨B2, 0, none⟩ = some (.slice aq y.1.length cq) := cell_at hl HC0.out.2.2 (cell_lt HC0.out.2.2)
      refine wpOp_step rfl (fun K' hK' => ?_)
      rw [if_pos (by rfl)]
      go_simp
      exact hK' _ _ ⟨y0, y1, y2, y3, y4, _, _, y7, y8, rfl, gL, g4, g7, g9, f0, f1, f2, f3, (fun _ => rfl), (fun _ => rfl), f8⟩
     ·have q6 := f6 (hdep 6 (by kernel_rfl))
      subst q6
      have h4 := hdep 4 (by kernel_rfl)
      have hown := g4 h4 hDi
      have h9 := hcl.no hDi (k := 9) (by decide) (by kernel_rfl)
      have hl := gL h9
      obtain ⟨i0, hi0, hz0, hz1, hz2⟩ := HI0.out
      refine wpOp_step rfl (fun K' hK' => ?_)
      rw [if_pos (by rfl)]
      refine wp_append_list _ (.tmp 115) (.tmp 117) 42 rfl U.heap.size 59 i0 _ 13 120 Tryz.underlying42 hi0 hz0 hz1 hz2 rfl (by decide) y4 x.1.length (entC x.1) rfl hown aq y.1.length cq (entC y.1) rfl (entC_len _) ((HEY.out.later hl).src) (entC_one _) ?_ ?_ hl.size ?_
      ·have := HB1.out; have := HB2.out; unfold maxLen; omega
      ·have := HB1.out; have := HB2.out; omega
      ·intro v8 W8 hown8 hg
       have hl8 : Later U W8 := later_grown hl hown hg
       exact hK' _ _ ⟨y0, y1, y2, y3, y4, y5, _, _, y8, rfl, (fun _ => hl8), (fun _ h => (updD_self h).elim), (fun _ _ => hown8), (fun h => absurd (show D' 9 = true from h) (by rw [h9]; decide)), f0, f1, f2, f3, f5, (fun _ => rfl), f8⟩
     ·skip
      refine wpOp_step rfl (fun K' hK' => ?_)
      rw [if_pos (by rfl)]
      go_simp
      exact hK' _ _ ⟨y0, y1, y2, y3, y4, y5, y6, y7, _, rfl, gL, g4, g7, g9, f0, f1, f2, f3, f5, f6, (fun _ => rfl)⟩
     ·have q8 := f8 (hdep 8 (by kernel_rfl))
      subst q8
      have h7 := hdep 7 (by kernel_rfl)
      have hown := g7 h7 hDi
      have hl := gL hDi
      have hk4 := (hl.block B4 (Array.getElem?_eq_some_iff.1 HK0.out).1).trans HK0.out
      have cz0 : W'.cell? ⟨B4, 0, none⟩ = some (.slice none 0 0) := by rw [Lib.cell_of_heap hk4]; rfl
      have cz1 : W'.frozen? ⟨B4, 0, none⟩ = false := Lib.frozen_of_heap hk4 0
      obtain ⟨a9, c9, h99⟩ := slice_of_own hown
      subst h99
      have HO9 := Lib.hid (And.intro hl hown)
      have HFF := Lib.hid (And.intro f0 (And.intro f1 (And.intro f2 (And.intro f3 (And.intro f5 f6)))))
      clear hown hl hk4 f0 f1 f2 f3 f5 f6 f8 gL g4 g7 g9
      refine wpOp_step rfl (fun K' hK' => ?_)
      rw [if_pos (by rfl)]
      go_simp
      exact hK' _ _ ⟨y0, y1, y2, y3, y4, y5, y6, _, _, rfl, (fun h => (updD_self h).elim), (fun _ h => absurd (show D' 7 = false from h) (by rw [h7]; decide)), (fun _ h => (updD_self h).elim), (fun _ => ⟨W', _, _, _, rfl, HO9.out.1, HO9.out.2, rfl⟩), HFF.out.1, HFF.out.2.1, HFF.out.2.2.1, HFF.out.2.2.2.1, HFF.out.2.2.2.2.1, HFF.out.2.2.2.2.2, (fun _ => rfl)⟩
    ·rintro D' a' W' hD' ⟨y0, y1, y2, y3, y4, y5, y6, y7, y8, rfl, gL, g4, g7, g9, f0, f1, f2, f3, f5, f6, f8⟩
     have q0 := f0 (hD' 0 (by decide))
     have q1 := f1 (hD' 1 (by decide))
     have q2 := f2 (hD' 2 (by decide))
     have q3 := f3 (hD' 3 (by decide))
     have q5 := f5 (hD' 5 (by decide))
     have q6 := f6 (hD' 6 (by decide))
     have q8 := f8 (hD' 8 (by decide))
     subst q0
     subst q1
     subst q2
     subst q3
     subst q5
     subst q6
     subst q8
     obtain ⟨V4, a7, n7, c7, hs9, hl9, hown9, rfl⟩ := g9 (hD' 9 (by decide))
     subst hs9
     clear gL g4 g7 g9
     have hb4U := (Array.getElem?_eq_some_iff.1 HK0.out).1
     have hk4 := (hl9.block B4 hb4U).trans HK0.out
     have hk4' := two_set0 (u := .slice a7 n7 c7) hk4
     have hset : ∀ k, k ≠ B4 → (V4.setCell ⟨B4, 0, none⟩ (.slice a7 n7 c7)).heap[k]? = V4.heap[k]? := fun k hk => Below.heap_setCell _ _ _ _ hk
     have hk1 := (hset B1 (by have := HBB.out; omega)).trans ((hl9.block B1 (Array.getElem?_eq_some_iff.1 HKU.out.1).1).trans HKU.out.1)
     have hk2 := (hset B2 (by have := HBB.out; omega)).trans ((hl9.block B2 (Array.getElem?_eq_some_iff.1 HKU.out.2.1).1).trans HKU.out.2.1)
     have hk3 := (hset B3 (by have := HBB.out; omega)).trans ((hl9.block B3 (Array.getElem?_eq_some_iff.1 HKU.out.2.2).1).trans HKU.out.2.2)
     have hl5 := (HL3U.out.trans hl9).setCell ⟨B4, 0, none⟩ (.slice a7 n7 c7) HB34.out
     have hlw5 := (HLU.out.trans hl9).setCell ⟨B4, 0, none⟩ (.slice a7 n7 c7) HBB.out.2.2.2
     have hown5 := own_set (o := 0) (u := .slice a7 n7 c7) hown9 hb4U
     obtain ⟨U5, hU5⟩ : ∃ U, V4.setCell ⟨B4, 0, none⟩ (.slice a7 n7 c7) = U := ⟨_, rfl⟩
     rw [hU5] at hk4' hk1 hk2 hk3 hl5 hlw5 hown5 ⊢
     have HPX := Lib.hid (HE3.out.2.1.later hl5)
     have HPY := Lib.hid (HE3.out.2.2.2.1.later hl5)
     have HK1 := Lib.hid hk4'
     have HKU5 := Lib.hid (And.intro hk1 (And.intro hk2 hk3))
     have HLW5 := Lib.hid (And.intro hlw5 hl5)
     have HO5 := Lib.hid (And.intro hb4U hown5)
     have HC1 := Lib.hid (show U5.cell? ⟨B4, 1, none⟩ = some (.slice none 0 0) ∧ U5.cell? ⟨B1, 1, none⟩ = some (.slice bo x.2.length cb) ∧ U5.cell? ⟨B2, 1, none⟩ = some (.slice bq y.2.length dq) from ⟨by rw [Lib.cell_of_heap hk4']; rfl, by rw [Lib.cell_of_heap hk1]; rfl, by rw [Lib.cell_of_heap hk2]; rfl⟩)
     clear hk4 hk4' hset hk1 hk2 hk3 hl5 hlw5 hown5 hU5 hl9 hown9 hb4U HC0 HEX HEY HK0 HKU HLU HL3U
     go_wp2_with fail
     refine wp_region_iv mixedS (fun D' a' W' => ∃ z0 z1 z2 z3 z4 z5 z6 z7 z8, a' = ⟨#[Value.string A, Value.string b, undef, undef, Value.bool false, Value.int IntKind.i64 ↑N, Value.int IntKind.i64 ↑k, Value.pointer (some { block := B1, off := 0 }), Value.int IntKind.i64 0, Value.int IntKind.i64 0, Value.pointer (some { block := B2, off := 0 }), Value.int IntKind.i64 0, Value.int IntKind.i64 0, Value.pointer (some { block := B3, off := 0 }), Value.int IntKind.i64 0, Value.int IntKind.i64 0, Value.pointer (some { block := B4, off := 0 }), Value.string a, Value.int IntKind.i64 ↑a.size, Value.bool false, Value.bool false, Value.string b, Value.int IntKind.i64 ↑b.size, Value.bool false, Value.bool false, undef, u26, u27, u28, u29, u30, u31, u32, u33, u34, u35, Value.bool c, u37, u38, Value.int IntKind.i64 ↑k, Value.string A, Value.int IntKind.i64 ↑A.size, Value.bool false, u43, u44, u45, u46, u47, u48, u49, u50, Value.tuple #[Value.agg #[Value.slice ao x.fst.length ca, Value.slice bo x.snd.length cb], Value.int IntKind.i64 0, Value.int IntKind.i64 0], Value.string A, Value.tuple #[Value.agg #[Value.slice ao x.fst.length ca, Value.slice bo x.snd.length cb], Value.int IntKind.i64 0, Value.int IntKind.i64 0], Value.agg #[Value.slice ao x.fst.length ca, Value.slice bo x.snd.length cb], Value.int IntKind.i64 0, Value.int IntKind.i64 0, Value.tuple #[Value.agg #[Value.slice aq y.fst.length cq, Value.slice bq y.snd.length dq], Value.int IntKind.i64 0, Value.int IntKind.i64 0], Value.string b, Value.tuple #[Value.agg #[Value.slice aq y.fst.length cq, Value.slice bq y.snd.length dq], Value.int IntKind.i64 0, Value.int IntKind.i64 0], Value.agg #[Value.slice aq y.fst.length cq, Value.slice bq y.snd.length dq], Value.int IntKind.i64 0, Value.int IntKind.i64 0, Value.tuple #[Value.agg #[Value.slice ar (plusS x y).fst.length cr, Value.slice br (plusS x y).snd.length dr], Value.int IntKind.i64 0, Value.int IntKind.i64 0], Value.string A, Value.string b, Value.string (A ++ b), Value.tuple #[Value.agg #[Value.slice ar (plusS x y).fst.length cr, Value.slice br (plusS x y).snd.length dr], Value.int IntKind.i64 0, Value.int IntKind.i64 0], Value.agg #[Value.slice ar (plusS x y).fst.length cr, Value.slice br (plusS x y).snd.length dr], Value.int IntKind.i64 0, Value.int IntKind.i64 0, Value.bool false, Value.int IntKind.i64 0, Value.bool false, undef, undef, undef, undef, undef, undef, undef, undef, undef, undef, undef, undef, undef, undef, undef, undef, Value.bool false, Value.int IntKind.i64 0, Value.bool false, undef, undef, undef, undef, undef, undef, undef, undef, undef, undef, undef, undef, undef, undef, undef, undef, undef, undef, .pointer (some ⟨B4, 0, none⟩), .slice none 0 0, .pointer (some ⟨B1, 0, none⟩), .slice ao x.1.length ca, y4, .pointer (some ⟨B2, 0, none⟩), .slice aq y.1.length cq, .slice a7 n7 c7, .pointer (some ⟨B4, 0, none⟩), z0, z1, z2, z3, z4, z5, z6, z7, z8, undef, undef, undef, undef, undef, undef, undef, undef, undef, undef, undef, undef, undef, undef], []⟩ ∧ (D' 9 = false → Later U5 W') ∧ (D' 4 = true → D' 7 = false → W'.ownsRow U5.heap.size 3 1 z4 x.2.length (ints x.2)) ∧ (D' 7 = true → D' 9 = false → W'.ownsRow U5.heap.size 3 1 z7 (x.2.length + y.2.length) (ints x.2 ++ ints y.2)) ∧ (D' 9 = true → ∃ V a9 n9 c9, z7 = .slice a9 n9 c9 ∧ Later U5 V ∧ V.ownsRow U5.heap.size 3 1 z7 (x.2.length + y.2.length) (ints x.2 ++ ints y.2) ∧ W' = V.setCell ⟨B4, 1, none⟩ z7) ∧ (D' 0 = true → z0 = .pointer (some ⟨B4, 1, none⟩)) ∧ (D' 1 = true → z1 = .slice none 0 0) ∧ (D' 2 = true → z2 = .pointer (some ⟨B1, 1, none⟩)) ∧ (D' 3 = true → z3 = .slice bo x.2.length cb) ∧ (D' 5 = true → z5 = .pointer (some ⟨B2, 1, none⟩)) ∧ (D' 6 = true → z6 = .slice bq y.2.length dq) ∧ (D' 8 = true → z8 = .pointer (some ⟨B4, 1, none⟩))) (by kernel_rfl) ?_ ?_ ?_
     ·exact ⟨undef, undef, undef, undef, undef, undef, undef, undef, undef, rfl, (fun _ => (Later.refl U5).drew), (fun h => by cases h), (fun h => by cases h), (fun h => by cases h), (fun h => by cases h), (fun h => by cases h), (fun h => by cases h), (fun h => by cases h), (fun h => by cases h), (fun h => by cases h), (fun h => by cases h)⟩
     ·intro i D' a' W' hi hDi hdep hcl hI
      obtain ⟨z0, z1, z2, z3, z4, z5, z6, z7, z8, rfl, gL, g4, g7, g9, f0, f1, f2, f3, f5, f6, f8⟩ := hI
      have hi' : i = 0 ∨ i = 1 ∨ i = 2 ∨ i = 3 ∨ i = 4 ∨ i = 5 ∨ i = 6 ∨ i = 7 ∨ i = 8 ∨ i = 9 := by
       have : i < 10 := hi
       omega
      rcases hi' with rfl | rfl | rfl | rfl | rfl | rfl | rfl | rfl | rfl | rfl
      ·skip
       refine wpOp_step rfl (fun K' hK' => ?_)
       rw [if_pos (by rfl)]
       go_simp
       exact hK' _ _ ⟨_, z1, z2, z3, z4, z5, z6, z7, z8, rfl, gL, g4, g7, g9, (fun _ => rfl), f1, f2, f3, f5, f6, f8⟩
      ·have q0 := f0 (hdep 0 (by kernel_rfl))
       subst q0
       have h9 := hcl.no hDi (k := 9) (by decide) (by kernel_rfl)
       have hl := gL h9
       have cc : W'.cell? ⟨B4, 1, none⟩ = some (.slice none 0 0) := cell_at hl HC1.out.1 (cell_lt HC1.out.1)
       refine wpOp_step rfl (fun K' hK' => ?_)
       rw [if_pos (by rfl)]
       go_simp
       exact hK' _ _ ⟨_, _, z2, z3, z4, z5, z6, z7, z8, rfl, gL, g4, g7, g9, (fun _ => rfl), (fun _ => rfl), f2, f3, f5, f6, f8⟩
      ·skip
       refine wpOp_step rfl (fun K' hK' => ?_)
       rw [if_pos (by rfl)]
       go_simp
       exact hK' _ _ ⟨z0, z1, _, z3, z4, z5, z6, z7, z8, rfl, gL, g4, g7, g9, f0, f1, (fun _ => rfl), f3, f5, f6, f8⟩
      ·have q2 := f2 (hdep 2 (by kernel_rfl))
       subst q2
       have h9 := hcl.no hDi (k := 9) (by decide) (by kernel_rfl)
       have hl := gL h9
       have cc : W'.cell? ⟨B1, 1, none⟩ = some (.slice bo x.2.length cb) := cell_at hl HC1.out.2.1 (cell_lt HC1.out.2.1)
       refine wpOp_step rfl (fun K' hK' => ?_)
       rw [if_pos (by rfl)]
       go_simp
       exact hK' _ _ ⟨z0, z1, _, _, z4, z5, z6, z7, z8, rfl, gL, g4, g7, g9, f0, f1, (fun _ => rfl), (fun _ => rfl), f5, f6, f8⟩
      ·have q1 := f1 (hdep 1 (by kernel_rfl))
       have q3 := f3 (hdep 3 (by kernel_rfl))
       subst q1
       subst q3
       have h9 := hcl.no hDi (k := 9) (by decide) (by kernel_rfl)
       have h7 := hcl.no hDi (k := 7) (by decide) (by kernel_rfl)
       have hl := gL h9
       obtain ⟨i0, hi0, hz0, hz1, hz2⟩ := HI1.out
       refine wpOp_step rfl (fun K' hK' => ?_)
       rw [if_pos (by rfl)]
       refine wp_append_list _ (.tmp 121) (.tmp 123) 43 rfl U5.heap.size 3 i0 _ 1 8 Tryz.underlying43 hi0 hz0 hz1 hz2 rfl (by decide) (.slice none 0 0) 0 [] rfl (World.ownsRow_nil _ _ _ _) bo x.2.length cb (ints x.2) rfl (by simp [ints]) ((HPX.out.later hl).src) (ints_one _) ?_ ?_ hl.size ?_
       ·have := HB1.out; unfold maxLen; omega
       ·have := HB1.out; omega
       ·intro v8 W8 hown hg
        have hown' : W8.ownsRow U5.heap.size 3 1 v8 x.2.length (ints x.2) := by simpa using hown
        have hl8 : Later U5 W8 := later_grown hl (World.ownsRow_nil _ _ 3 1) hg
        exact hK' _ _ ⟨z0, _, z2, _, _, z5, z6, z7, z8, rfl, (fun _ => hl8), (fun _ _ => hown'), (fun h => absurd (show D' 7 = true from h) (by rw [h7]; decide)), (fun h => absurd (show D' 9 = true from h) (by rw [h9]; decide)), f0, (fun _ => rfl), f2, (fun _ => rfl), f5, f6, f8⟩
      ·skip
       refine wpOp_step rfl (fun K' hK' => ?_)
       rw [if_pos (by rfl)]
       go_simp
       exact hK' _ _ ⟨z0, z1, z2, z3, z4, _, z6, z7, z8, rfl, gL, g4, g7, g9, f0, f1, f2, f3, (fun _ => rfl), f6, f8⟩
      ·have q5 := f5 (hdep 5 (by kernel_rfl))
       subst q5
       have h9 := hcl.no hDi (k := 9) (by decide) (by kernel_rfl)
       have hl := gL h9
       have cc : W'.cell? ⟨B2, 1, none⟩ = some (.slice bq y.2.length dq) := cell_at hl HC1.out.2.2 (cell_lt HC1.out.2.2)
       refine wpOp_step rfl (fun K' hK' => ?_)
       rw [if_pos (by rfl)]
       go_simp
       exact hK' _ _ ⟨z0, z1, z2, z3, z4, _, _, z7, z8, rfl, gL, g4, g7, g9, f0, f1, f2, f3, (fun _ => rfl), (fun _ => rfl), f8⟩
      ·have q6 := f6 (hdep 6 (by kernel_rfl))
       subst q6
       have h4 := hdep 4 (by kernel_rfl)
       have hown := g4 h4 hDi
       have h9 := hcl.no hDi (k := 9) (by decide) (by kernel_rfl)
       have hl := gL h9
       obtain ⟨i0, hi0, hz0, hz1, hz2⟩ := HI1.out
       refine wpOp_step rfl (fun K' hK' => ?_)
       rw [if_pos (by rfl)]
       refine wp_append_list _ (.tmp 124) (.tmp 126) 43 rfl U5.heap.size 3 i0 _ 1 8 Tryz.underlying43 hi0 hz0 hz1 hz2 rfl (by decide) z4 x.2.length (ints x.2) rfl hown bq y.2.length dq (ints y.2) rfl (by simp [ints]) ((HPY.out.later hl).src) (ints_one _) ?_ ?_ hl.size ?_
       ·have := HB1.out; have := HB2.out; unfold maxLen; omega
       ·have := HB1.out; have := HB2.out; omega
       ·intro v8 W8 hown8 hg
        have hl8 : Later U5 W8 := later_grown hl hown hg
        exact hK' _ _ ⟨z0, z1, z2, z3, z4, z5, _, _, z8, rfl, (fun _ => hl8), (fun _ h => (updD_self h).elim), (fun _ _ => hown8), (fun h => absurd (show D' 9 = true from h) (by rw [h9]; decide)), f0, f1, f2, f3, f5, (fun _ => rfl), f8⟩
      ·skip
       refine wpOp_step rfl (fun K' hK' => ?_)
       rw [if_pos (by rfl)]
       go_simp
       exact hK' _ _ ⟨z0, z1, z2, z3, z4, z5, z6, z7, _, rfl, gL, g4, g7, g9, f0, f1, f2, f3, f5, f6, (fun _ => rfl)⟩
      ·have q8 := f8 (hdep 8 (by kernel_rfl))
       subst q8
       have h7 := hdep 7 (by kernel_rfl)
       have hown := g7 h7 hDi
       have hl := gL hDi
       have hk4 := (hl.block B4 (Array.getElem?_eq_some_iff.1 HK1.out).1).trans HK1.out
       have cz0 : W'.cell? ⟨B4, 1, none⟩ = some (.slice none 0 0) := by rw [Lib.cell_of_heap hk4]; rfl
       have cz1 : W'.frozen? ⟨B4, 1, none⟩ = false := Lib.frozen_of_heap hk4 1
       obtain ⟨a9, c9, h99⟩ := slice_of_own hown
       subst h99
       have HO9 := Lib.hid (And.intro hl hown)
       have HFF := Lib.hid (And.intro f0 (And.intro f1 (And.intro f2 (And.intro f3 (And.intro f5 f6)))))
       clear hown hl hk4 f0 f1 f2 f3 f5 f6 f8 gL g4 g7 g9
       refine wpOp_step rfl (fun K' hK' => ?_)
       rw [if_pos (by rfl)]
       go_simp
       exact hK' _ _ ⟨z0, z1, z2, z3, z4, z5, z6, _, _, rfl, (fun h => (updD_self h).elim), (fun _ h => absurd (show D' 7 = false from h) (by rw [h7]; decide)), (fun _ h => (updD_self h).elim), (fun _ => ⟨W', _, _, _, rfl, HO9.out.1, HO9.out.2, rfl⟩), HFF.out.1, HFF.out.2.1, HFF.out.2.2.1, HFF.out.2.2.2.1, HFF.out.2.2.2.2.1, HFF.out.2.2.2.2.2, (fun _ => rfl)⟩
     ·rintro D' a' W' hD' ⟨z0, z1, z2, z3, z4, z5, z6, z7, z8, rfl, gL, g4, g7, g9, f0, f1, f2, f3, f5, f6, f8⟩
      have q0 := f0 (hD' 0 (by decide))
      have q1 := f1 (hD' 1 (by decide))
      have q2 := f2 (hD' 2 (by decide))
      have q3 := f3 (hD' 3 (by decide))
      have q5 := f5 (hD' 5 (by decide))
      have q6 := f6 (hD' 6 (by decide))
      have q8 := f8 (hD' 8 (by decide))
      subst q0
      subst q1
      subst q2
      subst q3
      subst q5
      subst q6
      subst q8
      obtain ⟨V5, a8, n8, c8, hs9, hl9, hown9, rfl⟩ := g9 (hD' 9 (by decide))
      subst hs9
      clear gL g4 g7 g9
      have hb4U := (Array.getElem?_eq_some_iff.1 HK1.out).1
      have hk4 := (hl9.block B4 hb4U).trans HK1.out
      have hk4' := two_set1 (u := .slice a8 n8 c8) hk4
      have hset : ∀ k, k ≠ B4 → (V5.setCell ⟨B4, 1, none⟩ (.slice a8 n8 c8)).heap[k]? = V5.heap[k]? := fun k hk => Below.heap_setCell _ _ _ _ hk
      have hk3 := (hset B3 (by have := HBB.out; omega)).trans ((hl9.block B3 (Array.getElem?_eq_some_iff.1 HKU5.out.2.2).1).trans HKU5.out.2.2)
      have hl6 := (HLW5.out.2.trans hl9).setCell ⟨B4, 1, none⟩ (.slice a8 n8 c8) HB34.out
      have hlw6 := (HLW5.out.1.trans hl9).setCell ⟨B4, 1, none⟩ (.slice a8 n8 c8) HBB.out.2.2.2
      have hown6 := own_set (o := 1) (u := .slice a8 n8 c8) (ownsRow_later HO5.out.2 hl9) HO5.out.1
      have hown7 := own_set (o := 1) (u := .slice a8 n8 c8) hown9 hb4U
      obtain ⟨U6, hU6⟩ : ∃ U, V5.setCell ⟨B4, 1, none⟩ (.slice a8 n8 c8) = U := ⟨_, rfl⟩
      rw [hU6] at hk4' hk3 hl6 hlw6 hown6 hown7 ⊢
      have hE6 : EntsAt U6 (.slice a7 n7 c7) (plusS x y).1 := EntsAt.of_owns (by show U6.ownsRow _ 59 13 _ (x.1 ++ y.1).length (entC (x.1 ++ y.1)); rw [List.length_append, entC_append]; exact hown6)
      have hP6 : NumsAt U6 (.slice a8 n8 c8) (plusS x y).2 := NumsAt.of_owns (by show U6.ownsRow _ 3 1 _ (x.2 ++ y.2).length (ints (x.2 ++ y.2)); rw [List.length_append, ints_append]; exact hown7)
      have HS := Lib.hid (H4.out _ _ _ _ U6 (HE3.out.2.2.2.2.1.later hl6) (HE3.out.2.2.2.2.2.later hl6) hE6 hP6)
      have HL6 := Lib.hid hlw6
      have d0 : U6.cell? ⟨B4, 0, none⟩ = some (.slice a7 n7 c7) := by rw [Lib.cell_of_heap hk4']; rfl
      have d1 : U6.cell? ⟨B4, 1, none⟩ = some (.slice a8 n8 c8) := by rw [Lib.cell_of_heap hk4']; rfl
      have e0 : U6.cell? ⟨B3, 0, none⟩ = some (.slice ar (plusS x y).1.length cr) := by rw [Lib.cell_of_heap hk3]; rfl
      have e1 : U6.cell? ⟨B3, 1, none⟩ = some (.slice br (plusS x y).2.length dr) := by rw [Lib.cell_of_heap hk3]; rfl
      clear hb4U hk4 hk4' hset hk3 hl6 hlw6 hown6 hown7 hU6 hE6 hP6 hl9 hown9
      go_wp2_with fail
      refine HS.out.mono ?_
      rintro e w7 ⟨rfl, hl7⟩
      have HL7 := Lib.hid (HL6.out.trans hl7)
      clear hl7 d0 d1 e0 e1
      go_wp2_with fail
      refine (awake_is _ (HW.out.later HL7.out)).mono ?_
      rintro e w8 ⟨rfl, hl8⟩
      have HL8 := Lib.hid (HL7.out.trans hl8)
      clear hl8
      go_wp2_with fail
      go_ret
      exact ⟨rfl, HL8.out⟩
theorem ScriptParts_is (a b : ByteArray) (w : World) (hw : Laid w) : Calls Tryz.prog 10 #[.string a, .string b] w fun e w' => e = .returned (.bool true) ∧ Later w w' := by
 by_cases hsa : a.size ≤ 10000
 ·by_cases hsb : b.size ≤ 10000
  ·obtain ⟨A, c, hfin, hend, hlen⟩ := fin_ex a
   have hl : A.size ≤ 10001 := by omega
   cases hp : parseP A.data.toList with
   | error nc => exact Parts_e1 a b A c hl hfin hend hsa hsb nc.1 nc.2 hp w hw
   | ok x =>
    cases hq : parseP b.data.toList with
    | error nc => exact Parts_e2 a b A c hl hfin hend hsa hsb x hp nc.1 nc.2 hq w hw
    | ok y => exact Parts_e3 a b A c hl hfin hend hsa hsb x y hp hq w hw
  ·exact Parts_long a b w hw (.inr ⟨hsa, by omega⟩)
 ·exact Parts_long a b w hw (.inl (by omega))
end Go.Proofs.YtkbedajbbakihaaGreatDoor
