/-
 Texts of this proof, put together (WdZ, Pl): each part's first words say what it holds. Conditions: as each part says.
-/
import Derived.Lib.SplitLaws
import Derived.Test.YtkbedajbbakihaaGreatDoorQa
/-
 Words of byte strings, plainly: what Word writes, what Unword reads, and that the program's way and the reference's answer alike. Conditions: none.
-/
namespace Go.Proofs.YtkbedajbbakihaaGreatDoor
set_option linter.unusedSimpArgs false
set_option linter.unusedVariables false

/-- does a byte stand for itself? -/
def itsf (c : UInt8) : Bool := (48 ≤ c.toNat && c.toNat ≤ 57) || (65 ≤ c.toNat && c.toNat ≤ 90) || (97 ≤ c.toNat && c.toNat ≤ 122) || c.toNat == 46 || c.toNat == 95
def hexd (n : Nat) : UInt8 := if n < 10 then UInt8.ofNat (48 + n) else UInt8.ofNat (87 + n)
def hexv (c : UInt8) : Option Nat := if 48 ≤ c.toNat ∧ c.toNat ≤ 57 then some (c.toNat - 48) else if 97 ≤ c.toNat ∧ c.toNat ≤ 102 then some (c.toNat - 87) else none
def wordB (c : UInt8) : List UInt8 := if itsf c then [c] else [37, hexd (c.toNat / 16), hexd (c.toNat % 16)]
/-- the word of a byte string -/
def word (l : List UInt8) : List UInt8 := if l = [] then [45] else l.flatMap wordB
/-- the program's reading of the bytes -/
def dec : List UInt8 → Option (List UInt8)
 | [] => some []
 | [c] => some [c]
 | [c, d] => some [c, d]
 | c :: a :: b :: r => if c = 37 then
   match hexv a, hexv b with
   | some h, some g => (dec r).map (UInt8.ofNat (16 * h + g) :: ·)
   | _, _ => none
  else (dec (a :: b :: r)).map (c :: ·)
def unword (w : List UInt8) : Option (List UInt8) :=
 if w = [45] then some [] else
 match dec w with
 | some s => if s ≠ [] ∧ word s = w then some s else none
 | none => none
/-- the reference's reading -/
def rdec : List UInt8 → Option (List UInt8)
 | [] => some []
 | [c] => if itsf c then some [c] else none
 | [c, d] => if itsf c then if itsf d then some [c, d] else none else none
 | c :: a :: b :: r => if itsf c then (rdec (a :: b :: r)).map (c :: ·) else if c = 37 then
   match hexv a, hexv b with
   | some h, some g => if itsf (UInt8.ofNat (16 * h + g)) then none else (rdec r).map (UInt8.ofNat (16 * h + g) :: ·)
   | _, _ => none
  else none
def runword (w : List UInt8) : Option (List UInt8) :=
 if w = [45] then some [] else if w = [] then none else rdec w

theorem hex_all : ((List.range 256).all fun k => decide (hexv (hexd (k / 16)) = some (k / 16) ∧ hexv (hexd (k % 16)) = some (k % 16))) = true := by kernel_rfl
theorem hex_back (c : UInt8) : hexv (hexd (c.toNat / 16)) = some (c.toNat / 16) ∧ hexv (hexd (c.toNat % 16)) = some (c.toNat % 16) :=
 of_decide_eq_true (List.all_eq_true.1 hex_all c.toNat (List.mem_range.2 c.toNat_lt))
theorem hexv_all : ((List.range 256).all fun k => match hexv (UInt8.ofNat k) with | some h => decide (h < 16 ∧ hexd h = UInt8.ofNat k) | none => true) = true := by kernel_rfl
theorem hexv_back {c : UInt8} {h : Nat} (hh : hexv c = some h) : h < 16 ∧ hexd h = c := by
 have h1 := List.all_eq_true.1 hexv_all c.toNat (List.mem_range.2 c.toNat_lt)
 rw [UInt8.ofNat_toNat, hh] at h1
 exact of_decide_eq_true h1
theorem itsf_37 : itsf 37 = false := by kernel_rfl
theorem itsf_45 : itsf 45 = false := by kernel_rfl

theorem rdec_word (s : List UInt8) : rdec (s.flatMap wordB) = some s := by
 induction s with
 | nil => rfl
 | cons c s ih =>
  rw [List.flatMap_cons]
  by_cases hc : itsf c
  ·simp only [wordB, hc, if_true, List.singleton_append]
   generalize hm : s.flatMap wordB = m at ih
   match m with
   | [] => simp only [rdec] at ih ⊢; rw [if_pos hc]; cases ih; rfl
   | [d] => 
    simp only [rdec] at ih ⊢
    rw [if_pos hc]
    by_cases hd : itsf d
    ·rw [if_pos hd] at ih ⊢; cases ih; rfl
    ·rw [if_neg hd] at ih; cases ih
   | a :: b :: r => rw [rdec, if_pos hc, ih]; rfl
  ·simp only [wordB, hc, if_false, List.cons_append, List.nil_append, Bool.false_eq_true]
   rw [rdec, if_neg (by rw [itsf_37]; simp), if_pos rfl, (hex_back c).1, (hex_back c).2]
   simp only
   have : UInt8.ofNat (16 * (c.toNat / 16) + c.toNat % 16) = c := by
    rw [Nat.div_add_mod, UInt8.ofNat_toNat]
   rw [this, if_neg hc, ih]
   rfl
theorem rdec_sound : ∀ (n : Nat) (w s : List UInt8), w.length ≤ n → rdec w = some s → dec w = some s ∧ s.flatMap wordB = w := by
 intro n
 induction n with
 | zero => 
  intro w s hn h
  obtain rfl : w = [] := List.length_eq_zero_iff.1 (by omega)
  cases h
  exact ⟨rfl, rfl⟩
 | succ n ih =>
  intro w s hn h
  match w with
  | [] => cases h; exact ⟨rfl, rfl⟩
  | [c] => 
   simp only [rdec] at h
   split at h
   ·rename_i hc
    cases h
    exact ⟨rfl, by simp [wordB, hc]⟩
   ·cases h
  | [c, d] =>
   simp only [rdec] at h
   split at h
   ·rename_i hc
    split at h
    ·rename_i hd
     cases h
     exact ⟨rfl, by simp [wordB, hc, hd]⟩
    ·cases h
   ·cases h
  | c :: a :: b :: r =>
   rw [rdec] at h
   by_cases hc : itsf c
   ·rw [if_pos hc] at h
    cases hr : rdec (a :: b :: r) with
    | none => rw [hr] at h; cases h
    | some t =>
     rw [hr] at h
     cases h
     obtain ⟨h1, h2⟩ := ih (a :: b :: r) t (by simp at hn ⊢; omega) hr
     refine ⟨?_, ?_⟩
     ·rw [dec, if_neg (by rintro rfl; rw [itsf_37] at hc; cases hc), h1]; rfl
     ·rw [List.flatMap_cons, h2]; simp [wordB, hc]
   ·rw [if_neg hc] at h
    by_cases h37 : c = 37
    ·rw [if_pos h37] at h
     cases ha : hexv a with
     | none => rw [ha] at h; cases h
     | some x =>
      cases hb : hexv b with
      | none => rw [ha, hb] at h; cases h
      | some y =>
       rw [ha, hb] at h
       simp only at h
       split at h
       ·cases h
       ·rename_i hi
        cases hr : rdec r with
        | none => rw [hr] at h; cases h
        | some t =>
         rw [hr] at h
         cases h
         obtain ⟨h1, h2⟩ := ih r t (by simp at hn ⊢; omega) hr
         obtain ⟨hx, hxa⟩ := hexv_back ha
         obtain ⟨hy, hyb⟩ := hexv_back hb
         refine ⟨?_, ?_⟩
         ·rw [dec, if_pos h37, ha, hb, h1]; rfl
         ·have e1 : (UInt8.ofNat (16 * x + y)).toNat = 16 * x + y := by
           rw [UInt8.toNat_ofNat']; omega
          have e2 : (16 * x + y) / 16 = x := by omega
          have e3 : (16 * x + y) % 16 = y := by omega
          rw [List.flatMap_cons, h2]
          simp only [wordB, hi, if_false, e1, e2, e3, hxa, hyb, h37, Bool.false_eq_true]
          rfl
    ·rw [if_neg h37] at h; cases h
theorem word_ne (s : List UInt8) (h : s ≠ []) : s.flatMap wordB ≠ [] := by
 cases s with
 | nil => exact absurd rfl h
 | cons c s =>
  rw [List.flatMap_cons]
  unfold wordB
  split <;> simp
/-- the two readings are one -/
theorem unword_eq (w : List UInt8) : unword w = runword w := by
 unfold unword runword
 by_cases h45 : w = [45]
 ·rw [if_pos h45, if_pos h45]
 ·rw [if_neg h45, if_neg h45]
  cases hr : rdec w with
  | some s =>
   obtain ⟨h1, h2⟩ := rdec_sound w.length w s (Nat.le_refl _) hr
   rw [h1]
   simp only
   by_cases hw : w = []
   ·subst hw
    cases hr
    simp
   ·have hs : s ≠ [] := by rintro rfl; exact hw h2.symm
    rw [if_neg hw, if_pos ⟨hs, by unfold word; rw [if_neg hs, h2]⟩]
  | none =>
   have : (if w = [] then none else (none : Option (List UInt8))) = none := by split <;> rfl
   rw [this]
   cases hd : dec w with
   | none => rfl
   | some s =>
    simp only
    rw [if_neg]
    rintro ⟨hs, hw⟩
    unfold word at hw
    rw [if_neg hs] at hw
    rw [← hw, rdec_word] at hr
    cases hr
/-- the word of a byte string is read back -/
theorem unword_word (s : List UInt8) : unword (word s) = some s := by
 rw [unword_eq]
 unfold runword word
 by_cases hs : s = []
 ·rw [if_pos hs, if_pos rfl, hs]
 ·rw [if_neg hs, if_neg, if_neg (word_ne s hs), rdec_word]
  intro h
  have := rdec_word s
  rw [h] at this
  simp [rdec, itsf_45] at this
end Go.Proofs.YtkbedajbbakihaaGreatDoor

/-
 Whether a byte stands for itself: the program's plain, the reference's itself, digit and value. Conditions: none.
-/
namespace Go.Proofs.YtkbedajbbakihaaGreatDoor
open Go.RowKit
set_option linter.unusedSimpArgs false
set_option linter.unusedVariables false

def itsI (x : Int) : Bool := (decide (48 ≤ x) && decide (x ≤ 57)) || (decide (65 ≤ x) && decide (x ≤ 90)) || (decide (97 ≤ x) && decide (x ≤ 122)) || decide (x = 46) || decide (x = 95)
theorem itsI_of (c : UInt8) : itsI (c.toNat : Int) = itsf c := by
 unfold itsI itsf
 rw [Bool.eq_iff_iff]
 simp
 omega
theorem ranges (x : Int) : (x ≤ 45) ∨ x = 46 ∨ x = 47 ∨ (48 ≤ x ∧ x ≤ 57) ∨ (58 ≤ x ∧ x ≤ 64) ∨ (65 ≤ x ∧ x ≤ 90) ∨ (91 ≤ x ∧ x ≤ 94) ∨ x = 95 ∨ x = 96 ∨ (97 ≤ x ∧ x ≤ 122) ∨ 123 ≤ x := by omega
set_option maxHeartbeats 1600000 in
theorem plain_is (x : Int) (b : Bool) (hb : itsI x = b) (w : World) : Calls Tryz.prog 29 #[.int .u8 x] w fun e w' => e = .returned (.bool b) ∧ w' = w := by
 rcases ranges x with h | rfl | rfl | ⟨h, k⟩ | ⟨h, k⟩ | ⟨h, k⟩ | ⟨h, k⟩ | rfl | rfl | ⟨h, k⟩ | h
 case inr.inl => subst hb; go_enter Tryz.func29, Tryz.ntmps29; go_wp2; go_ret; exact ⟨rfl, rfl⟩
 case inr.inr.inl => subst hb; go_enter Tryz.func29, Tryz.ntmps29; go_wp2; go_ret; exact ⟨rfl, rfl⟩
 case inr.inr.inr.inr.inr.inr.inr.inl => subst hb; go_enter Tryz.func29, Tryz.ntmps29; go_wp2; go_ret; exact ⟨rfl, rfl⟩
 case inr.inr.inr.inr.inr.inr.inr.inr.inl => subst hb; go_enter Tryz.func29, Tryz.ntmps29; go_wp2; go_ret; exact ⟨rfl, rfl⟩
 all_goals
  have e1 : (x == 46) = false := by simp; omega
  have e2 : (x == 95) = false := by simp; omega
  obtain ⟨q, hq⟩ : ∃ q, itsI x = q := ⟨_, rfl⟩
  obtain rfl : q = b := hq.symm.trans hb
  clear hb
  cases q <;> first
   | (exfalso; revert hq; unfold itsI; simp; omega)
   | (clear hq; go_enter Tryz.func29, Tryz.ntmps29; go_wp2; go_ret; refine ⟨?_, rfl⟩; first | rfl | (simp; omega))
set_option maxHeartbeats 1600000 in
theorem itself_is (x : Int) (b : Bool) (hb : itsI x = b) (w : World) : Calls Tryz.prog 34 #[.int .u8 x] w fun e w' => e = .returned (.bool b) ∧ w' = w := by
 rcases ranges x with h | rfl | rfl | ⟨h, k⟩ | ⟨h, k⟩ | ⟨h, k⟩ | ⟨h, k⟩ | rfl | rfl | ⟨h, k⟩ | h
 case inr.inl => subst hb; go_enter Tryz.func34, Tryz.ntmps34; go_wp2; go_ret; exact ⟨rfl, rfl⟩
 case inr.inr.inl => subst hb; go_enter Tryz.func34, Tryz.ntmps34; go_wp2; go_ret; exact ⟨rfl, rfl⟩
 case inr.inr.inr.inr.inr.inr.inr.inl => subst hb; go_enter Tryz.func34, Tryz.ntmps34; go_wp2; go_ret; exact ⟨rfl, rfl⟩
 case inr.inr.inr.inr.inr.inr.inr.inr.inl => subst hb; go_enter Tryz.func34, Tryz.ntmps34; go_wp2; go_ret; exact ⟨rfl, rfl⟩
 all_goals
  have e1 : (x == 46) = false := by simp; omega
  have e2 : (x == 95) = false := by simp; omega
  obtain ⟨q, hq⟩ : ∃ q, itsI x = q := ⟨_, rfl⟩
  obtain rfl : q = b := hq.symm.trans hb
  clear hb
  cases q <;> first
   | (exfalso; revert hq; unfold itsI; simp; omega)
   | (clear hq; go_enter Tryz.func34, Tryz.ntmps34; go_wp2; go_ret; refine ⟨?_, rfl⟩; first | rfl | (simp; omega))
theorem digit_is (n : Nat) (hn : n < 16) (x : Int) (hx : x = n) (w : World) : Calls Tryz.prog 35 #[.int .i64 x] w fun e w' => e = .returned (.int .u8 ((hexd n).toNat : Int)) ∧ w' = w := by
 have h0 : 0 ≤ x := by omega
 have h1 : x < 16 := by omega
 have HX := Lib.hid hx
 by_cases h : x < 10
 ·have e : ((hexd n).toNat : Int) = 48 + x := by
   unfold hexd
   rw [if_pos (by omega), UInt8.toNat_ofNat']
   omega
  rw [e]
  clear hx e hn
  go_enter Tryz.func35, Tryz.ntmps35
  go_wp2
  go_ret
  exact ⟨rfl, rfl⟩
 ·have e : ((hexd n).toNat : Int) = 97 + x - 10 := by
   unfold hexd
   rw [if_neg (by omega), UInt8.toNat_ofNat']
   omega
  rw [e]
  have h' : 10 ≤ x := by omega
  clear hx e hn h
  go_enter Tryz.func35, Tryz.ntmps35
  go_wp2
  go_ret
  exact ⟨rfl, rfl⟩
/-- the value of a hexadecimal digit; -1: it is none -/
def valI (c : UInt8) : Int := match hexv c with | some h => (h : Int) | none => -1
def valE (x : Int) : Int := if 48 ≤ x ∧ x ≤ 57 then x - 48 else if 97 ≤ x ∧ x ≤ 102 then x - 97 + 10 else -1
theorem valI_all : ((List.range 256).all fun k => decide (valI (UInt8.ofNat k) = valE ((UInt8.ofNat k).toNat : Int))) = true := by kernel_rfl
theorem valI_eq (c : UInt8) : valI c = valE (c.toNat : Int) := by
 have h1 := List.all_eq_true.1 valI_all c.toNat (List.mem_range.2 c.toNat_lt)
 rw [UInt8.ofNat_toNat] at h1
 exact of_decide_eq_true h1
theorem value_is (c : UInt8) (v : Int) (hv : valI c = v) (w : World) : Calls Tryz.prog 36 #[.int .u8 (c.toNat : Int)] w fun e w' => e = .returned (.int .i64 v) ∧ w' = w := by
 rw [valI_eq, valE] at hv
 obtain ⟨x, hx⟩ : ∃ x : Int, x = (c.toNat : Int) := ⟨_, rfl⟩
 rw [← hx] at hv ⊢
 have h0 : 0 ≤ x := by omega
 have h1 : x ≤ 255 := by have := c.toNat_lt; omega
 clear hx
 by_cases h : 48 ≤ x ∧ x ≤ 57
 ·rw [if_pos h] at hv
  obtain ⟨a, b⟩ := h
  subst hv
  go_enter Tryz.func36, Tryz.ntmps36
  go_wp2
  go_ret
  exact ⟨rfl, rfl⟩
 ·rw [if_neg h] at hv
  by_cases k : 97 ≤ x ∧ x ≤ 102
  ·rw [if_pos k] at hv
   obtain ⟨a, b⟩ := k
   have d : decide (x ≤ 57) = false := by simp; omega
   clear h
   subst hv
   go_enter Tryz.func36, Tryz.ntmps36
   go_wp2
   go_ret
   exact ⟨rfl, rfl⟩
  ·rw [if_neg k] at hv
   subst hv
   by_cases a : x < 48
   ·clear h k
    go_enter Tryz.func36, Tryz.ntmps36
    go_wp2
    go_ret
    exact ⟨rfl, rfl⟩
   ·have d : decide (x ≤ 57) = false := by simp; omega
    have a' : 48 ≤ x := by omega
    by_cases b : x < 97
    ·clear h k a
     go_enter Tryz.func36, Tryz.ntmps36
     go_wp2
     go_ret
     exact ⟨rfl, rfl⟩
    ·have b' : 97 ≤ x := by omega
     have d2 : decide (x ≤ 102) = false := by simp; omega
     clear h k a b
     go_enter Tryz.func36, Tryz.ntmps36
     go_wp2
     go_ret
     exact ⟨rfl, rfl⟩
/-- the hexadecimal digits -/
def hexS : ByteArray := ⟨#[48, 49, 50, 51, 52, 53, 54, 55, 56, 57, 97, 98, 99, 100, 101, 102]⟩
theorem index_hex_all : ((List.range 256).all fun k => decide (Lib.indexByte hexS.data.toList (UInt8.ofNat k) = valI (UInt8.ofNat k))) = true := by kernel_rfl
theorem index_hex (c : UInt8) : Lib.indexByte hexS.data.toList c = valI c := by
 have h1 := List.all_eq_true.1 index_hex_all c.toNat (List.mem_range.2 c.toNat_lt)
 rw [UInt8.ofNat_toNat] at h1
 exact of_decide_eq_true h1
end Go.Proofs.YtkbedajbbakihaaGreatDoor
