/-
 Texts of this proof, put together (Pc, Pd, Pe): each part's first words say what it holds. Conditions: as each part says.
-/
import Derived.Test.YtkbedajbbakihaaGreatDoorYk
import Derived.Test.YtkbedajbbakihaaGreatDoorQe
/-
 The reference's pick, picks and lines, walked. Conditions: the texts have at most 10^9 bytes.
-/
namespace Go.Proofs.YtkbedajbbakihaaGreatDoor
open Go.RowKit Go.Sort Go.Lib
set_option linter.unusedSimpArgs false
set_option linter.unusedVariables false

theorem pk_minus {l : List UInt8} (c : UInt8) (r : List UInt8) (h : l = 45 :: c :: r) : pk l = match lrg (c :: r) with
  | some n => if n = 0 ∨ 9223372036854775808 < n then none else some (-(n : Int))
  | none => none := by subst h; rfl
theorem pk_plus {l : List UInt8} (h : ∀ c r, l ≠ 45 :: c :: r) : pk l = match lrg l with
  | some n => if n ≤ 9223372036854775807 then some (n : Int) else none
  | none => none := by
 match l with
 | [] => rfl
 | [a] =>
  unfold pk
  split
  ·rename_i h2; injection h2 with _ h2; cases h2
  ·rfl
 | a :: c :: r =>
  by_cases ha : a = 45
  ·subst ha; exact absurd rfl (h c r)
  ·unfold pk
   split
   ·rename_i h2; injection h2 with h2; exact absurd h2 ha
   ·rfl
set_option maxRecDepth 100000 in
set_option maxHeartbeats 2000000 in
theorem rPick {s : ByteArray} {l : List UInt8} (hV : s.data.toList = l) (hs : s.size ≤ 1000000000) (W : World) : Calls Tryz.prog 85 #[.string s] W fun e w' => e = .returned (.tuple #[.int .i64 ((pk l).getD 0), .bool (pk l).isSome]) ∧ Later W w' := by
 by_cases hm : ∃ c r, l = 45 :: c :: r
 ·obtain ⟨c, r, hl⟩ := hm
  have hsz : s.size = r.length + 2 := by rw [Lib.size_eq, hV, hl]; rfl
  have hpos : 0 < s.size := by omega
  have h0 : s[0] = 45 := by
   have h1 : 0 < s.data.toList.length := by rw [← Lib.size_eq]; exact hpos
   have h2 : s.data.toList[0] = s[0] := by rw [Array.getElem_toList]; rfl
   rw [← h2]
   simp only [hV, hl, List.getElem_cons_zero]
  have hv : ((s[0].toNat : Int) == 45) = true := by rw [h0]; rfl
  have d1 : decide ((1 : Int) < (s.size : Int)) = true := decide_eq_true (by omega)
  have h1s : 1 ≤ s.size := by omega
  have hx : (s.extract 1 s.size).data.toList = c :: r := by
   rw [Lib.extract_data, hV, hl, List.drop_one, List.tail_cons, List.take_of_length_le (by rw [List.length_cons]; omega)]
  have hxs : (s.extract 1 s.size).size ≤ 1000000000 := by rw [Lib.size_eq, hx]; simp; omega
  have hL := fun W => rLrg hx hxs W
  have hpm := pk_minus c r hl
  cases hr : lrg (c :: r) with
  | none =>
   rw [hr] at hL hpm
   rw [show pk l = none from hpm]
   clear hpm
   have HL := Lib.hid (show ∀ W, Calls Tryz.prog 78 #[.string (s.extract 1 s.size)] W fun e w' => e = .returned (.tuple #[.int .u64 0, .bool false]) ∧ Later W w' from hL)
   clear hsz hL hr hx hxs hV hl h0
   go_enter Tryz.func85, Tryz.ntmps85
   go_wp2_with fail
   refine (HL.out W).mono ?_
   rintro y1 w1 ⟨rfl, hl1⟩
   have HW := Lib.hid hl1
   clear hl1
   go_wp2_with fail
   go_ret2
   exact ⟨rfl, HW.out⟩
  | some n =>
   have hb := ((lrg_iff _ _).1 hr).1
   rw [hr] at hL hpm
   obtain ⟨x, hx2⟩ : ∃ x : Int, (n : Int) = x := ⟨_, rfl⟩
   have HL := Lib.hid (show ∀ W, Calls Tryz.prog 78 #[.string (s.extract 1 s.size)] W fun e w' => e = .returned (.tuple #[.int .u64 x, .bool true]) ∧ Later W w' by rw [← hx2]; exact hL)
   by_cases hn : n = 0 ∨ 9223372036854775808 < n
   ·rw [show pk l = none from hpm.trans (if_pos hn)]
    clear hpm
    by_cases hz : x = 0
    ·have t1 : (x == 0) = true := by simp [hz]
     have HZ := Lib.hid hx2
     clear hsz hL hr hx hxs hV hl h0 hn hz hx2 hb
     go_enter Tryz.func85, Tryz.ntmps85
     go_wp2_with fail
     refine (HL.out W).mono ?_
     rintro y1 w1 ⟨rfl, hl1⟩
     have HW := Lib.hid hl1
     clear hl1
     go_wp2_with fail
     go_ret2
     exact ⟨rfl, HW.out⟩
    ·have t1 : (x == 0) = false := by simp [hz]
     have t2 : decide ((9223372036854775808 : Int) < x) = true := decide_eq_true (by omega)
     clear hsz hL hr hx hxs hV hl h0 hn hx2 hb
     go_enter Tryz.func85, Tryz.ntmps85
     go_wp2_with fail
     refine (HL.out W).mono ?_
     rintro y1 w1 ⟨rfl, hl1⟩
     have HW := Lib.hid hl1
     clear hl1
     go_wp2_with fail
     go_ret2
     exact ⟨rfl, HW.out⟩
   ·rw [show pk l = some (-x) by rw [← hx2]; exact hpm.trans (if_neg hn)]
    clear hpm
    have hz : ¬ x = 0 := fun h => hn (.inl (by omega))
    have t1 : (x == 0) = false := by simp [hz]
    have hz2 : x ≤ 9223372036854775808 := by have := fun h => hn (.inr h); omega
    have t2 : decide ((9223372036854775808 : Int) < x) = false := decide_eq_false (by omega)
    obtain ⟨m, hm⟩ : ∃ m : Int, x - 1 = m := ⟨_, rfl⟩
    have a1 : IntKind.u64.wrap (x - 1) = m := by rw [hm]; exact IntWalk.u64_in _ (by omega)
    have a2 : IntKind.i64.wrap m = m := IntWalk.i64_in _ (by omega)
    have a3 : IntKind.i64.wrap (-m) = -m := IntWalk.i64_in _ (by omega)
    have a4 : IntKind.i64.wrap (-m - 1) = -x := by rw [show -m - 1 = -x by omega]; exact IntWalk.i64_in _ (by omega)
    clear hsz hL hr hx hxs hV hl h0 hn hm hx2 hb
    go_enter Tryz.func85, Tryz.ntmps85
    go_wp2_with fail
    refine (HL.out W).mono ?_
    rintro y1 w1 ⟨rfl, hl1⟩
    have HW := Lib.hid hl1
    clear hl1
    go_wp2_with fail
    go_ret2
    exact ⟨rfl, HW.out⟩
 ·have hne : ∀ c r, l ≠ 45 :: c :: r := fun c r h => hm ⟨c, r, h⟩
  have hL := fun W => rLrg hV hs W
  have hpm := pk_plus hne
  have hb1 : ∃ b1, decide ((1 : Int) < (s.size : Int)) = b1 ∧ ∀ h : 0 < s.size, b1 = true → ((s[0].toNat : Int) == 45) = false := by
   refine ⟨_, rfl, fun hpos hb => ?_⟩
   have h1 : (1 : Int) < (s.size : Int) := of_decide_eq_true hb
   have h3 : s[0].toNat ≠ 45 := by
    intro h
    have h4 : s[0] = 45 := UInt8.toNat_inj.1 h
    have h5 : 0 < s.data.toList.length := by rw [← Lib.size_eq]; exact hpos
    have h6 : s.data.toList[0] = s[0] := by rw [Array.getElem_toList]; rfl
    rw [h4] at h6
    have h7 : l.length = s.size := by rw [← hV, Lib.size_eq]
    match l, hV, h7, hne with
    | [], _, h7, _ => simp at h7; omega
    | [a], _, h7, _ => simp at h7; omega
    | a :: c :: r, hV, _, hne =>
     simp only [hV, List.getElem_cons_zero] at h6
     exact hne c r (by rw [h6])
   simp only [beq_eq_false_iff_ne, ne_eq]
   omega
  obtain ⟨b1, hb1, hb2⟩ := hb1
  have HB := Lib.hid (And.intro hb1 hb2)
  have key : ∀ (res : Option Nat), lrg l = res → (∀ W, Calls Tryz.prog 78 #[.string s] W fun e w' => e = .returned (.tuple #[.int .u64 ((res.getD 0 : Nat) : Int), .bool res.isSome]) ∧ Later W w') := fun res h W => by rw [← h]; exact hL W
  cases hr : lrg l with
  | none =>
   rw [hr] at hpm
   rw [show pk l = none from hpm]
   clear hpm
   have HL := Lib.hid (show ∀ W, Calls Tryz.prog 78 #[.string s] W fun e w' => e = .returned (.tuple #[.int .u64 0, .bool false]) ∧ Later W w' from key none hr)
   clear hL hr hV hne hm key hb1 hb2
   cases b1 with
   | false =>
    have d1 := HB.out.1
    go_enter Tryz.func85, Tryz.ntmps85
    go_wp2_with fail
    refine (HL.out W).mono ?_
    rintro y1 w1 ⟨rfl, hl1⟩
    have HW := Lib.hid hl1
    clear hl1
    go_wp2_with fail
    go_ret2
    exact ⟨rfl, HW.out⟩
   | true =>
    have d1 := HB.out.1
    have hpos : 0 < s.size := by have := of_decide_eq_true d1; omega
    have hv := HB.out.2 hpos rfl
    go_enter Tryz.func85, Tryz.ntmps85
    go_wp2_with fail
    refine (HL.out W).mono ?_
    rintro y1 w1 ⟨rfl, hl1⟩
    have HW := Lib.hid hl1
    clear hl1
    go_wp2_with fail
    go_ret2
    exact ⟨rfl, HW.out⟩
  | some n =>
   have hb := ((lrg_iff _ _).1 hr).1
   rw [hr] at hpm
   obtain ⟨x, hx2⟩ : ∃ x : Int, (n : Int) = x := ⟨_, rfl⟩
   have HL := Lib.hid (show ∀ W, Calls Tryz.prog 78 #[.string s] W fun e w' => e = .returned (.tuple #[.int .u64 x, .bool true]) ∧ Later W w' by rw [← hx2]; exact key (some n) hr)
   by_cases h9 : x ≤ 9223372036854775807
   ·rw [show pk l = some x by rw [← hx2]; exact hpm.trans (if_pos (by omega))]
    clear hpm
    have t2 : decide ((9223372036854775807 : Int) < x) = false := decide_eq_false (by omega)
    have a1 : IntKind.i64.wrap x = x := IntWalk.i64_in _ (by omega)
    clear hL hr hV hne hm key hb1 hb2 hb hx2
    cases b1
    case false =>
     have d1 := HB.out.1
     go_enter Tryz.func85, Tryz.ntmps85
     go_wp2_with fail
     refine (HL.out W).mono ?_
     rintro y1 w1 ⟨rfl, hl1⟩
     have HW := Lib.hid hl1
     clear hl1
     go_wp2_with fail
     go_ret2
     exact ⟨rfl, HW.out⟩
    case true =>
     have d1 := HB.out.1
     have hpos : 0 < s.size := by have := of_decide_eq_true d1; omega
     have hv := HB.out.2 hpos rfl
     go_enter Tryz.func85, Tryz.ntmps85
     go_wp2_with fail
     refine (HL.out W).mono ?_
     rintro y1 w1 ⟨rfl, hl1⟩
     have HW := Lib.hid hl1
     clear hl1
     go_wp2_with fail
     go_ret2
     exact ⟨rfl, HW.out⟩
   ·rw [show pk l = none from hpm.trans (if_neg (by omega))]
    clear hpm
    have t2 : decide ((9223372036854775807 : Int) < x) = true := decide_eq_true (by omega)
    clear hL hr hV hne hm key hb1 hb2 hb hx2
    cases b1
    case false =>
     have d1 := HB.out.1
     go_enter Tryz.func85, Tryz.ntmps85
     go_wp2_with fail
     refine (HL.out W).mono ?_
     rintro y1 w1 ⟨rfl, hl1⟩
     have HW := Lib.hid hl1
     clear hl1
     go_wp2_with fail
     go_ret2
     exact ⟨rfl, HW.out⟩
    case true =>
     have d1 := HB.out.1
     have hpos : 0 < s.size := by have := of_decide_eq_true d1; omega
     have hv := HB.out.2 hpos rfl
     go_enter Tryz.func85, Tryz.ntmps85
     go_wp2_with fail
     refine (HL.out W).mono ?_
     rintro y1 w1 ⟨rfl, hl1⟩
     have HW := Lib.hid hl1
     clear hl1
     go_wp2_with fail
     go_ret2
     exact ⟨rfl, HW.out⟩
end Go.Proofs.YtkbedajbbakihaaGreatDoor

/-
 The reference's picks and lines, walked. Conditions: the texts have at most 10^9 bytes.
-/
namespace Go.Proofs.YtkbedajbbakihaaGreatDoor
open Go.RowKit Go.Sort Go.Lib
set_option linter.unusedSimpArgs false
set_option linter.unusedVariables false

/-- the picks of a line as the reference has them: none if it is no line of picks -/
def pickV (w0 : List UInt8) (rest : List (List UInt8)) : List Int := if w0 = picksN then (pksL rest).getD [] else []
theorem pksL_take {rest : List (List UInt8)} {k : Nat} {x : List UInt8} {P : List Int} (h : rest[k]? = some x) (hP : pksL (rest.take k) = some P) : pksL (rest.take (k + 1)) = (pk x).map fun v => P ++ [v] := by
 induction rest generalizing k P with
 | nil => simp at h
 | cons a t ih =>
  cases k with
  | zero =>
   simp at h
   subst h
   simp [pksL] at hP
   subst hP
   simp [pksL]
   cases pk a <;> simp
  | succ k =>
   rw [List.getElem?_cons_succ] at h
   rw [List.take_succ_cons, pksL] at hP ⊢
   cases ha : pk a with
   | none => rw [ha] at hP; cases hP
   | some v =>
    rw [ha] at hP
    cases ht : pksL (t.take k) with
    | none => rw [ht] at hP; cases hP
    | some Q =>
     rw [ht] at hP
     have hPQ : v :: Q = P := by simpa using hP
     subst hPQ
     simp only [Option.bind_some]
     rw [ih h ht]
     cases pk x <;> simp
theorem pksL_none {rest : List (List UInt8)} {k : Nat} (h : pksL (rest.take k) = none) : pksL rest = none := by
 induction rest generalizing k with
 | nil => simp [pksL] at h
 | cons a t ih =>
  cases k with
  | zero => simp [pksL] at h
  | succ k =>
   rw [List.take_succ_cons, pksL] at h
   rw [pksL]
   cases ha : pk a with
   | none => rfl
   | some v =>
    rw [ha] at h
    simp only [Option.bind_some] at h ⊢
    cases ht : pksL (t.take k) with
    | none => rw [ih ht]; rfl
    | some Q => rw [ht] at h; cases h
theorem len_sumL {x : List UInt8} : ∀ {ws : List (List UInt8)}, x ∈ ws → x.length ≤ sumL ws
 | [], h => by cases h
 | a :: t, h => by
  have e : sumL (a :: t) = a.length + sumL t := by simp [sumL]
  rcases List.mem_cons.1 h with rfl | h
  ·omega
  ·have := len_sumL h; omega
set_option maxRecDepth 100000 in
set_option maxHeartbeats 4000000 in
theorem refPicks_is (v : Value) (w0 : List UInt8) (rest : List (List UInt8)) (w : World) (h : SL w v (w0 :: rest)) (hsm : sumL (w0 :: rest) ≤ 100000000) (hlb : (w0 :: rest).length ≤ 1000000000) :
  Calls Tryz.prog 49 #[v] w fun e w' => Later w w' ∧ ∃ a c, e = .returned (.slice a (pickV w0 rest).length c) ∧ w'.ownsRow w.heap.size 3 1 (.slice a (pickV w0 rest).length c) (pickV w0 rest).length (ints (pickV w0 rest)) := by
 obtain ⟨ao, cap, rfl, hx⟩ := id h
 obtain ⟨X, off, rfl, hc⟩ := hx.resolve_left (by simp)
 obtain ⟨L, hL⟩ : ∃ L, (w0 :: rest).length = L := ⟨_, rfl⟩
 have HCS := Lib.hid (show ∀ W, Later w W → ∀ j, j < L → W.cell? ⟨X, off + j, none⟩ = some (.string ⟨(wrd (w0 :: rest) j).toArray⟩) from fun W hl j hj => cell_at hl (hc j (by omega)) (cell_lt (hc j (by omega))))
 obtain ⟨V0, hV0⟩ : ∃ V : ByteArray, ⟨w0.toArray⟩ = V := ⟨_, rfl⟩
 rw [hL] at hlb ⊢
 have hL1 : 0 < L := by rw [← hL]; simp
 have c0 : w.cell? ⟨X, off, none⟩ = some (.string V0) := by rw [← hV0]; exact HCS.out w (Later.refl w) 0 hL1
 have HLN := Lib.hid (show rest.length + 1 = L by rw [← hL]; rfl)
 have HSM := Lib.hid hsm
 have hL2 : (0 : Int) < (L : Int) := by omega
 by_cases hw : w0 = picksN
 ·have hcm : (V0.toList == (⟨#[112, 105, 99, 107, 115]⟩ : ByteArray).toList) = true := by rw [← hV0, hw, ByteArray.toList_mk, ByteArray.toList_mk]; rfl
  have hcm2 : (V0.toList == [112, 105, 99, 107, 115]) = true := by rw [← hV0, hw, ByteArray.toList_mk]; rfl
  obtain ⟨P, hP⟩ : ∃ P, (pksL rest).getD [] = P := ⟨_, rfl⟩
  have hpv : pickV w0 rest = P := by unfold pickV; rw [if_pos hw, hP]
  rw [hpv]
  have HP := Lib.hid hP
  have hi3 : (Tryz.prog.info? 3).map (fun i => (i.zero, i.size, i.bytes)) = some (some (.int .i64 0), 1, 8) := by kernel_rfl
  have HI := Lib.hid (info_parts hi3)
  have HVS := Lib.hid hV0
  clear h hx hc hL hsm hV0 hw hpv hP hi3
  go_enter Tryz.func49, Tryz.ntmps49
  go_wp2_with fail
  go_loopw [3, 4] (fun o i wr => ∃ (k : Nat) (Q : List Int), k + 1 ≤ L ∧ i = .int .i64 ((k + 1 : Nat) : Int) ∧ pksL (rest.take k) = some Q ∧ Q.length = k ∧ Later w wr ∧ wr.ownsRow w.heap.size 3 1 o k (ints Q)) (fun _ i _ => L - (RowKit.intOf i).toNat)
  case atStart => exact ⟨0, [], by omega, rfl, by simp [pksL], rfl, Later.refl w, World.ownsRow_nil _ _ _ _⟩
  case round =>
   obtain ⟨k, Q, hk, rfl, hq, hqk, hlw, hown⟩ := hrel
   rename World => wk
   have HQ := Lib.hid (And.intro hq hqk)
   have HLW := Lib.hid hlw
   obtain ⟨ov, oc, rfl⟩ := slice_of_own hown
   obtain ⟨k1, hk1⟩ : ∃ k1, k + 1 = k1 := ⟨_, rfl⟩
   rw [hk1] at hk ⊢
   clear hq hqk hlw c0
   by_cases hlt : k1 < L
   ·have hke : k < rest.length := by have := HLN.out; omega
    obtain ⟨x, hx⟩ : ∃ x, rest[k]? = some x := ⟨_, List.getElem?_eq_getElem hke⟩
    obtain ⟨Vx, hVx⟩ : ∃ V : ByteArray, ⟨x.toArray⟩ = V := ⟨_, rfl⟩
    have hxw : wrd (w0 :: rest) k1 = x := by
     rw [← hk1]
     show (w0 :: rest).getD (k + 1) [] = x
     rw [List.getD_cons_succ, List.getD_eq_getElem?_getD, hx]
     rfl
    have c1 : wk.cell? ⟨X, off + k1, none⟩ = some (.string Vx) := by
     have h := HCS.out wk HLW.out k1 hlt
     rw [hxw, hVx] at h
     exact h
    have hVd : Vx.data.toList = x := by rw [← hVx]
    have hVs : Vx.size ≤ 100000000 := by
     rw [← hVx, size_mk]
     have h1 : x.length ≤ sumL (w0 :: rest) := by
      exact len_sumL (List.mem_cons_of_mem _ (List.mem_of_getElem? hx))
     have := HSM.out; omega
    have hpk := fun W => rPick hVd (by omega) W
    have HTK := Lib.hid (pksL_take hx HQ.out.1)
    have HK1 := Lib.hid hk1
    have hown2 := hown
    have d0 : decide ((k1 : Int) < (L : Int)) = true := decide_eq_true (by omega)
    clear hx hVx hxw hVd hke
    cases hp : pk x with
    | none =>
     rw [hp] at hpk
     have HPK := Lib.hid (show ∀ W, Calls Tryz.prog 85 #[.string Vx] W fun e w' => e = .returned (.tuple #[.int .i64 0, .bool false]) ∧ Later W w' from hpk)
     have HPN := Lib.hid (show P = [] by
      rw [← HP.out, pksL_none (k := k + 1) (by rw [HTK.out, hp]; rfl)]
      rfl)
     clear hpk hp hk1 hown hown2
     go_wp2_with fail
     refine (HPK.out wk).mono ?_
     rintro y1 w1 ⟨rfl, hl1⟩
     have HL1 := Lib.hid (HLW.out.trans hl1)
     clear hl1
     go_wp2_with fail
     go_ret
     exact ⟨HL1.out, none, 0, by rw [HPN.out]; rfl, by rw [HPN.out]; exact World.ownsRow_nil _ _ _ _⟩
    | some y =>
     rw [hp] at hpk
     have HPK := Lib.hid (show ∀ W, Calls Tryz.prog 85 #[.string Vx] W fun e w' => e = .returned (.tuple #[.int .i64 y, .bool true]) ∧ Later W w' from hpk)
     have HNX := Lib.hid (show pksL (rest.take (k + 1)) = some (Q ++ [y]) by rw [HTK.out, hp]; rfl)
     clear hpk hp hk1
     go_wp2_with fail
     refine (HPK.out wk).mono ?_
     rintro y1 w1 ⟨rfl, hl1⟩
     have HL1 := Lib.hid (HLW.out.trans hl1)
     have hown3 := ownsRow_later hown2 hl1
     have HO3 := Lib.hid hown3
     obtain ⟨i0, hi, hz0, hz1, hz2⟩ := HI.out
     have hsz := HL1.out.size
     have hkb : k ≤ 1000000000 := by have := HK1.out; omega
     clear hl1 hown hown2
     go_wp2_with (at_builtin; refine wpList_append_own _ rfl _ _ 43 rfl w.heap.size 3 i0 (.int .i64 0) 1 8 Tryz.underlying43 hi hz0 hz1 hz2 rfl (by decide) _ _ _ rfl (hown3.alloc _) ⟨w1.heap.size, 0, none⟩ 1 1 [.int .i64 y] rfl rfl (cell_one_new _ _ _) (by simp [Value.oneCell']) ?c3 ?c4 ?c5 ?_)
     case c3 => unfold maxLen; omega
     case c4 => omega
     case c5 => simp; omega
     intro s3 w6 hown6 hgrow _
     have HREL := Lib.hid (show Later w w6 ∧ w6.ownsRow w.heap.size 3 1 s3 (k + 1) (ints (Q ++ [y])) from ⟨later_grown (HL1.out.alloc _) (HO3.out.alloc _) hgrow, by rw [ints_snoc]; exact hown6⟩)
     have hw1 : IntKind.i64.wrap ((k1 : Int) + 1) = (k1 : Int) + 1 := IntWalk.i64_in _ (by omega)
     clear hown3 hown6 hgrow hi hz0 hz1 hz2
     go_wp2_with fail
     go_roundw
     case rel => exact ⟨k + 1, Q ++ [y], by have := HK1.out; omega, by have := HK1.out; congr 1; omega, HNX.out, by rw [List.length_append, HQ.out.2]; rfl, HREL.out.1, HREL.out.2⟩
     case measure => simp [RowKit.intOf]; omega
   ·have HD := Lib.hid (show P = Q by
     rw [← HP.out]
     have h := HQ.out.1
     rw [List.take_of_length_le (by have := HLN.out; omega)] at h
     rw [h]
     rfl)
    have d0 : decide ((k1 : Int) < (L : Int)) = false := decide_eq_false (by omega)
    have HO := Lib.hid hown
    clear hown
    go_wp2_with fail
    go_ret
    exact ⟨HLW.out, ov, oc, by rw [HD.out, HQ.out.2]; rfl, by rw [HD.out, HQ.out.2]; exact HO.out⟩
 ·have hcm : (V0.toList == (⟨#[112, 105, 99, 107, 115]⟩ : ByteArray).toList) = false := by
   rw [← hV0, ByteArray.toList_mk, ByteArray.toList_mk]
   unfold picksN at hw
   simpa using hw
  have hcm2 : (V0.toList == [112, 105, 99, 107, 115]) = false := by
   rw [← hV0, ByteArray.toList_mk]
   unfold picksN at hw
   simpa using hw
  have hpv : pickV w0 rest = [] := by unfold pickV; rw [if_neg hw]
  rw [hpv]
  clear h hx hc hL hsm hV0 hw hpv
  go_enter Tryz.func49, Tryz.ntmps49
  go_wp2_with fail
  go_ret
  exact ⟨Later.refl w, none, 0, rfl, World.ownsRow_nil _ _ _ _⟩
end Go.Proofs.YtkbedajbbakihaaGreatDoor

/-
 The reference's lines, walked. Conditions: the text has at most 10^9 bytes.
-/
namespace Go.Proofs.YtkbedajbbakihaaGreatDoor
open Go.RowKit Go.Sort Go.Lib
set_option linter.unusedSimpArgs false
set_option linter.unusedVariables false

/-- the lines before byte k: D, and from byte f on the one under way -/
structure LnI (l : List UInt8) (k f : Nat) (D : List (List UInt8)) : Prop where
 le : f ≤ k
 run : (∀ c ∈ (l.take k).drop f, c ≠ 10) ∧ lns l = D.map (·, true) ++ lns (l.drop f)
theorem LnI.cut {l : List UInt8} {k f : Nat} {D : List (List UInt8)} (h : LnI l k f D) (hk : k < l.length) (hc : l[k] = 10) : LnI l (k + 1) (k + 1) (D ++ [(l.take k).drop f]) := by
 obtain ⟨h1, h2⟩ := h.run
 refine ⟨Nat.le_refl _, fun c hm => ?_, ?_⟩
 ·rw [List.drop_of_length_le (by rw [List.length_take]; omega)] at hm
  cases hm
 ·have hd : l.drop f = (l.take k).drop f ++ 10 :: l.drop (k + 1) := by
   have h3 : l.take k ++ l.drop k = l := List.take_append_drop k l
   have h4 : l.drop f = (l.take k ++ l.drop k).drop f := by rw [h3]
   rw [h4, List.drop_append_of_le_length (by rw [List.length_take]; have := h.le; omega), List.drop_eq_getElem_cons hk, hc]
  have h5 := lnsA_cut ((l.take k).drop f) (l.drop (k + 1)) (fun hm => h1 _ hm rfl) []
  rw [h2, hd]
  show _ ++ lnsA [] _ = _
  rw [h5]
  simp
theorem LnI.skip {l : List UInt8} {k f : Nat} {D : List (List UInt8)} (h : LnI l k f D) (hk : k < l.length) (hc : l[k] ≠ 10) : LnI l (k + 1) f D := by
 obtain ⟨h1, h2⟩ := h.run
 refine ⟨by have := h.le; omega, fun c hm => ?_, h2⟩
 rw [List.take_add_one, List.getElem?_eq_getElem hk, Option.toList_some, List.drop_append_of_le_length (by rw [List.length_take]; have := h.le; omega)] at hm
 rcases List.mem_append.1 hm with hm | hm
 ·exact h1 c hm
 ·rw [List.mem_singleton] at hm
  rw [hm]
  exact hc
theorem LnI.end_ {l : List UInt8} {f : Nat} {D : List (List UInt8)} (h : LnI l l.length f D) : lns l = D.map (·, true) ++ (if l.length ≤ f then [] else [(l.drop f, false)]) := by
 obtain ⟨h1, h2⟩ := h.run
 rw [List.take_length] at h1
 rw [h2]
 congr 1
 have h5 := lnsA_rest (l.drop f) (fun hm => h1 _ hm rfl) []
 show lnsA [] _ = _
 rw [h5, List.nil_append]
 by_cases hf : l.length ≤ f
 ·rw [if_pos hf, if_pos (List.drop_of_length_le hf)]
 ·rw [if_neg hf, if_neg (by intro e; have := congrArg List.length e; rw [List.length_drop, List.length_nil] at this; omega)]
/-- the lines as the reference returns them -/
structure LnE (l : List UInt8) (D : List (List UInt8)) (b : Bool) : Prop where
 yes : b = true → lns l = D.map (·, true)
 no : b = false → ∃ D' x, D = D' ++ [x] ∧ lns l = D'.map (·, true) ++ [(x, false)]
 len : D.length ≤ l.length + 1
set_option maxRecDepth 100000 in
set_option maxHeartbeats 4000000 in
theorem refLines_is (s : ByteArray) (hs : s.size ≤ 1000000000) (w : World) :
  Calls Tryz.prog 48 #[.string s] w fun e w' => Later w w' ∧ ∃ a c D b, e = .returned (.tuple #[.slice a D.length c, .bool b]) ∧ LnE s.data.toList D b ∧ w'.ownsRow w.heap.size 9 1 (.slice a D.length c) D.length (wsC D) := by
 have hi9 : (Tryz.prog.info? 9).map (fun i => (i.zero, i.size, i.bytes)) = some (some (.string ⟨#[]⟩), 1, 16) := by kernel_rfl
 obtain ⟨i0, hi, hz0, hz1, hz2⟩ := info_parts hi9
 have HI := Lib.hid (And.intro hi (And.intro hz0 (And.intro hz1 hz2)))
 have hsz : s.data.toList.length = s.size := (Lib.size_eq s).symm
 have HSZ := Lib.hid hsz
 have HI0 := Lib.hid (show LnI s.data.toList 0 0 [] from ⟨Nat.le_refl _, fun c hc => by simp at hc, by simp⟩)
 clear hi9 hi hz0 hz1 hz2 hsz
 go_enter Tryz.func48, Tryz.ntmps48
 go_wp2_with fail
 go_loopw [4, 5, 6] (fun o g i wr => ∃ (k f : Nat) (D : List (List UInt8)), k ≤ s.size ∧ i = .int .i64 k ∧ g = .int .i64 f ∧ LnI s.data.toList k f D ∧ D.length ≤ k ∧ Later w wr ∧ wr.ownsRow w.heap.size 9 1 o D.length (wsC D)) (fun _ _ i _ => s.size - (RowKit.intOf i).toNat)
 case atStart => exact ⟨0, 0, [], by omega, rfl, rfl, HI0.out, by simp, Later.refl w, World.ownsRow_nil _ _ _ _⟩
 case round =>
  obtain ⟨k, f, D, hk, rfl, rfl, hsp, hDk, hlw, hown⟩ := hrel
  rename World => wk
  have HSP := Lib.hid hsp
  have HLW := Lib.hid hlw
  obtain ⟨ov, oc, rfl⟩ := slice_of_own hown
  have HOWN := Lib.hid hown
  have hfk := hsp.le
  have hsz := hlw.size
  obtain ⟨n, hn⟩ : ∃ n, D.length = n := ⟨_, rfl⟩
  have HN := Lib.hid hn
  rw [hn] at hown hDk ⊢
  have hwr : IntKind.i64.wrap ((k : Int) + 1) = (k : Int) + 1 := IntWalk.i64_in _ (by omega)
  have push : ∀ (T : ByteArray) (v6 : Value) (w6 : World) (o : Obj), w6.ownsRow w.heap.size 9 1 v6 (n + 1) (wsC D ++ [.string T]) → (wk.alloc o).grownBy w6 (Value.slice ov n oc).ownBlock → Later w w6 ∧ w6.ownsRow w.heap.size 9 1 v6 (D ++ [T.data.toList]).length (wsC (D ++ [T.data.toList])) := by
   intro T v6 w6 o h1 h2
   have hT : T = ⟨T.data.toList.toArray⟩ := by
    apply ByteArray.ext
    simp
   refine ⟨later_grown (HLW.out.alloc o) (g := .slice ov n oc) ((show wk.ownsRow w.heap.size 9 1 (.slice ov n oc) n (wsC D) by have h := HOWN.out; rw [HN.out] at h; exact h).alloc o) h2, ?_⟩
   rw [List.length_append, HN.out, show wsC (D ++ [T.data.toList]) = wsC D ++ [.string T] by rw [hT]; simp [wsC]]
   exact h1
  have HP := Lib.hid push
  clear hsp hlw hn HI0 push
  by_cases hlt : k < s.size
  ·have d0 : decide ((k : Int) < (s.size : Int)) = true := decide_eq_true (by omega)
   have hlt' : k < s.data.toList.length := by rw [HSZ.out]; exact hlt
   have hge : s.data.toList[k] = s[k] := by rw [Array.getElem_toList]; rfl
   have hle : k ≤ s.size := hk
   by_cases hc : s[k] = 10
   ·have hv : ((s[k].toNat : Int) == 10) = true := by rw [hc]; rfl
    have HX := Lib.hid (show LnI s.data.toList (k + 1) (k + 1) (D ++ [(s.extract f k).data.toList]) by
     have h3 : (s.extract f k).data.toList = (s.data.toList.take k).drop f := by rw [Lib.extract_data]; simp [List.drop_take]
     rw [h3]
     exact HSP.out.cut hlt' (by rw [hge, hc]))
    clear hge hc
    go_wp2_with (at_builtin; refine wpList_append_own _ rfl _ _ 29 rfl w.heap.size 9 i0 _ 1 16 Tryz.underlying29 HI.out.1 HI.out.2.1 HI.out.2.2.1 HI.out.2.2.2 rfl (by decide) _ _ _ rfl (hown.alloc _) ⟨wk.heap.size, 0, none⟩ 1 1 [.string (s.extract f k)] rfl rfl (cell_one_new _ _ _) (by simp [Value.oneCell']) ?c3 ?c4 ?c5 ?_)
    case c3 => unfold maxLen; omega
    case c4 => omega
    case c5 => simp; omega
    intro v6 w6 hown6 hgrow _
    have HR := Lib.hid (HP.out _ _ _ _ hown6 hgrow)
    clear hown hown6 hgrow
    go_wp2_with fail
    go_roundw
    case rel => exact ⟨k + 1, k + 1, _, by omega, by go_num, by go_num, HX.out, by rw [List.length_append, HN.out]; simp; omega, HR.out.1, HR.out.2⟩
    case measure => simp [RowKit.intOf]; omega
   ·have hv : ((s[k].toNat : Int) == 10) = false := by
     have h3 : s[k].toNat ≠ 10 := fun h => hc (UInt8.toNat_inj.1 h)
     simp only [beq_eq_false_iff_ne, ne_eq]
     omega
    have HX := Lib.hid (show LnI s.data.toList (k + 1) f D from HSP.out.skip hlt' (by rw [hge]; exact hc))
    clear hge hc
    go_wp2_with fail
    go_roundw
    case rel => exact ⟨k + 1, f, D, by omega, by go_num, rfl, HX.out, by rw [HN.out]; omega, HLW.out, by have h := HOWN.out; rw [HN.out] at h ⊢; exact h⟩
    case measure => simp [RowKit.intOf]; omega
  ·have d0 : decide ((k : Int) < (s.size : Int)) = false := decide_eq_false (by omega)
   have hks : k = s.size := by omega
   have HE := Lib.hid (show lns s.data.toList = D.map (·, true) ++ (if s.data.toList.length ≤ f then [] else [(s.data.toList.drop f, false)]) by
    have h := HSP.out
    rw [hks, ← HSZ.out] at h
    exact h.end_)
   have hfs : f ≤ s.size := by omega
   by_cases hf : f = s.size
   ·have d1 : ((f : Int) == (s.size : Int)) = true := by simp; omega
    have HF := Lib.hid (show LnE s.data.toList D true from ⟨fun _ => by rw [HE.out, if_pos (by rw [HSZ.out]; omega), List.append_nil], (fun h => by cases h), by rw [HSZ.out, HN.out]; omega⟩)
    clear hks hf
    go_wp2_with fail
    go_ret2
    exact ⟨HLW.out, ov, oc, D, true, by rw [HN.out]; rfl, HF.out, HOWN.out⟩
   ·have d1 : ((f : Int) == (s.size : Int)) = false := by simp; omega
    have HF := Lib.hid (show LnE s.data.toList (D ++ [(s.extract f s.size).data.toList]) false from ⟨(fun h => by cases h), fun _ => ⟨D, _, rfl, by
     rw [HE.out, if_neg (by rw [HSZ.out]; omega)]
     congr 3
     rw [Lib.extract_data, List.take_of_length_le (by rw [List.length_drop, HSZ.out]; exact Nat.le_refl _)]⟩, by rw [List.length_append, HSZ.out, HN.out]; simp; omega⟩)
    clear hks hf
    go_wp2_with (at_builtin; refine wpList_append_own _ rfl _ _ 29 rfl w.heap.size 9 i0 _ 1 16 Tryz.underlying29 HI.out.1 HI.out.2.1 HI.out.2.2.1 HI.out.2.2.2 rfl (by decide) _ _ _ rfl (hown.alloc _) ⟨wk.heap.size, 0, none⟩ 1 1 [.string (s.extract f s.size)] rfl rfl (cell_one_new _ _ _) (by simp [Value.oneCell']) ?c3 ?c4 ?c5 ?_)
    case c3 => unfold maxLen; omega
    case c4 => omega
    case c5 => simp; omega
    intro v6 w6 hown6 hgrow _
    have hR := HP.out _ _ _ _ hown6 hgrow
    obtain ⟨av, cv, h66⟩ := slice_of_own hown6
    subst h66
    have HR := Lib.hid hR
    clear hown hown6 hgrow hR
    go_wp2_with fail
    go_ret2
    exact ⟨HR.out.1, av, cv, _, false, by rw [List.length_append, HN.out]; rfl, HF.out, by have h := HR.out.2; rw [List.length_append, HN.out] at h ⊢; exact h⟩
end Go.Proofs.YtkbedajbbakihaaGreatDoor
