/-
  The reference's number and bits: a word read as a decimal or hexadecimal number. Conditions: the word is shorter than 2^47 bytes.
-/
import Derived.Test.YthohoendjipleaaGreatDoorC
import Derived.Test.YthohoendjipleaaGreatDoorPs
import Derived.Lib.Strings
namespace Go.Proofs.YthohoendjipleaaGreatDoor
open Go.RowKit Go.Lib
set_option linter.unusedSimpArgs false
set_option linter.unusedVariables false

def numEnd : Option Nat → Value
  | some u => .tuple #[.int .u64 (u : Int), .bool true]
  | none => .tuple #[.int .u64 0, .bool false]
theorem nr_len {l : List UInt8} {u : Nat} (h : numD l = some u) : l.length ≤ 20 := by
  rw [← numD_word h, Lib.decDigits_length]
  have hu := numD_le h
  by_cases h0 : u = 0
  · subst h0; rw [Lib.nDigits_small (by omega)]; omega
  · have := Lib.numDigits_eq u (by omega) (by omega)
    split at this <;> omega
theorem drop_at (s : ByteArray) (k : Nat) (h : k < s.size) : s.data.toList.drop k = s[k] :: s.data.toList.drop (k + 1) := by
  rw [List.drop_eq_getElem_cons (by simpa using h)]; rfl
theorem drop_end (s : ByteArray) : s.data.toList.drop s.size = [] := List.drop_eq_nil_of_le (by rw [Lib.size_eq]; exact Nat.le_refl _)

set_option maxRecDepth 100000 in
set_option maxHeartbeats 8000000 in
theorem refNumber_in (t : ByteArray) (h0 : t.size ≠ 0) (h20 : t.size ≤ 20) (hz : (hx : 1 < t.size) → t[0].toNat ≠ 48) (w : World) :
    Calls Tryz.prog 43 #[.string t] w fun e w' => e = .returned (numEnd (nr 0 t.data.toList)) ∧ w = w' := by
  obtain ⟨bs, hbs⟩ : ∃ bs, bs = t.data.toList := ⟨_, rfl⟩
  have hdr := drop_at t
  have hde := drop_end t
  rw [← hbs] at hdr hde ⊢
  clear hbs
  have HDR := Lib.hid hdr
  have HDE := Lib.hid hde
  clear hdr hde
  have hfirst : (decide (1 < (t.size : Int)) = false) ∨ (decide (1 < (t.size : Int)) = true ∧ ∃ h : 0 < t.size, (((t[0]'h).toNat : Int) == 48) = false) := by
    by_cases h1 : 1 < t.size
    · right
      exact ⟨by simp; omega, by omega, by have := hz h1; simp; omega⟩
    · left; simp; omega
  clear hz
  have hs0 : ((t.size : Int) == 0) = false := by rw [beq_eq_false_iff_ne]; omega
  have hs20 : decide (20 < (t.size : Int)) = false := by simp; omega
  go_enter Tryz.func43, Tryz.ntmps43
  rcases hfirst with h1 | ⟨h1, h2, h3⟩
  all_goals
    go_wp2_with fail
    go_loop [4, 5] (fun vn vi => ∃ (k acc : Nat), vn = .int .u64 (acc : Int) ∧ vi = .int .i64 (k : Int) ∧ k ≤ t.size ∧ Hid (acc ≤ 18446744073709551615 ∧ nr 0 bs = nr acc (bs.drop k)))
      (fun _ vi => t.size - (RowKit.intOf vi).toNat)
    case atStart => exact ⟨0, 0, rfl, rfl, by omega, ⟨by omega, rfl⟩⟩
    case round =>
      obtain ⟨k, acc, rfl, rfl, hk, hh⟩ := hrel
      obtain ⟨hacc, hdec⟩ := hh.out
      clear hh
      by_cases hlt : k < t.size
      · rw [HDR.out k hlt] at hdec
        have hc256 : t[k].toNat < 256 := t[k].toNat_lt
        by_cases hdig : 48 ≤ t[k].toNat ∧ t[k].toNat ≤ 57
        · obtain ⟨d0, d1⟩ := hdig
          by_cases hov : acc * 10 + (t[k].toNat - 48) ≤ 18446744073709551615
          · have hF : nr acc (t[k] :: bs.drop (k + 1)) = nr (acc * 10 + (t[k].toNat - 48)) (bs.drop (k + 1)) := by rw [nr, if_pos ⟨d0, d1, hov⟩]
            have HN := Lib.hid (And.intro hov (hdec.trans hF))
            have i1 : (acc : Int) ≤ (18446744073709551615 - ((t[k].toNat : Int) - 48)) / 10 := by omega
            have i2 : decide ((18446744073709551615 - ((t[k].toNat : Int) - 48)) / 10 < (acc : Int)) = false := by simp; omega
            have i3 : (acc : Int) * 10 + ((t[k].toNat : Int) - 48) ≤ 18446744073709551615 := by omega
            have i4 : 10 * (acc : Int) + ((t[k].toNat : Int) - 48) = ((acc * 10 + (t[k].toNat - 48) : Nat) : Int) := by omega
            have i5 : 10 * (acc : Int) ≤ 18446744073709551615 := by omega
            clear hdec hF hov hacc
            go_wp2_with fail
            refine ⟨⟨k + 1, acc * 10 + (t[k].toNat - 48), by first | rfl | (congr 1; omega), by first | rfl | (congr 1; omega), by omega, HN⟩, by simp [RowKit.intOf]; omega⟩
          · have hF : nr acc (t[k] :: bs.drop (k + 1)) = none := by rw [nr, if_neg (fun h => hov h.2.2)]
            have HE := Lib.hid (hdec.trans hF)
            have i2 : decide ((18446744073709551615 - ((t[k].toNat : Int) - 48)) / 10 < (acc : Int)) = true := by simp; omega
            clear hdec hF hov
            go_wp2_with fail
            go_ret2
            exact ⟨by rw [HE.out]; rfl, rfl⟩
        · have hF : nr acc (t[k] :: bs.drop (k + 1)) = none := by rw [nr, if_neg (fun h => hdig ⟨h.1, h.2.1⟩)]
          have HE := Lib.hid (hdec.trans hF)
          clear hdec hF hacc
          by_cases hl : t[k].toNat < 48
          · go_wp2_with fail
            go_ret2
            exact ⟨by rw [HE.out]; rfl, rfl⟩
          · have hg : 57 < t[k].toNat := by omega
            go_wp2_with fail
            go_ret2
            exact ⟨by rw [HE.out]; rfl, rfl⟩
      · obtain rfl : k = t.size := by omega
        rw [HDE.out] at hdec
        have HE := Lib.hid hdec
        clear hdec hacc
        go_wp2_with fail
        go_ret2
        exact ⟨by rw [HE.out]; rfl, rfl⟩
set_option maxRecDepth 100000 in
theorem refNumber_is (t : ByteArray) (hmax : t.size ≤ 140737488355328) (w : World) :
    Calls Tryz.prog 43 #[.string t] w fun e w' => e = .returned (numEnd (numD t.data.toList)) ∧ w = w' := by
  have hsz := Lib.size_eq t
  by_cases h0 : t.size = 0
  · have hn : numD t.data.toList = none := numD_none (.inl (List.eq_nil_of_length_eq_zero (by omega)))
    rw [hn]
    have hd : ((t.size : Int) == 0) = true := by rw [h0]; rfl
    have H0 := Lib.hid h0
    clear hn hsz h0
    go_enter Tryz.func43, Tryz.ntmps43
    go_wp2_with fail
    go_ret2
    exact ⟨rfl, rfl⟩
  by_cases h20 : 20 < t.size
  · have hn : numD t.data.toList = none := by
      cases h : numD t.data.toList with
      | none => rfl
      | some u => have := nr_len h; omega
    rw [hn]
    have hs0 : ((t.size : Int) == 0) = false := by rw [beq_eq_false_iff_ne]; omega
    have hs20 : decide (20 < (t.size : Int)) = true := by simp; omega
    clear hn hsz h0 h20 hmax
    go_enter Tryz.func43, Tryz.ntmps43
    go_wp2_with fail
    go_ret2
    exact ⟨rfl, rfl⟩
  by_cases hz : ∃ h : 1 < t.size, t[0].toNat = 48
  · obtain ⟨h1, hz⟩ := hz
    have hn : numD t.data.toList = none := by
      unfold numD
      rw [if_pos]
      refine .inr ⟨by omega, ?_⟩
      have h2 := drop_at t 0 (by omega)
      rw [List.drop_zero] at h2
      rw [h2, List.head?_cons]
      congr 1
      apply UInt8.toNat.inj
      rw [hz]; rfl
    rw [hn]
    have hp : 0 < t.size := Nat.lt_trans (by decide) h1
    have hzi : (((t[0]'hp).toNat : Int) == 48) = true := by rw [show (t[0]'hp).toNat = 48 from hz]; rfl
    have hs0 : ((t.size : Int) == 0) = false := by rw [beq_eq_false_iff_ne]; omega
    have hs20 : decide (20 < (t.size : Int)) = false := by simp; omega
    have hs1 : decide (1 < (t.size : Int)) = true := by simp; omega
    clear hn h0 h20 hmax hsz hz
    go_enter Tryz.func43, Tryz.ntmps43
    go_wp2_with fail
    go_ret2
    exact ⟨rfl, rfl⟩
  · have hn : numD t.data.toList = nr 0 t.data.toList := by
      unfold numD
      rw [if_neg]
      rintro (h | ⟨h, k⟩)
      · rw [h] at hsz; exact h0 hsz
      · refine hz ⟨by omega, ?_⟩
        have h2 := drop_at t 0 (by omega)
        rw [List.drop_zero] at h2
        rw [h2, List.head?_cons] at k
        have k' : t[0] = 48 := Option.some.inj k
        rw [k']; rfl
    rw [hn]
    exact refNumber_in t h0 (by omega) (fun hx k => hz ⟨hx, k⟩) w

def accOK (acc k : Nat) (bs : List UInt8) : Prop := acc < 16 ^ k ∧ hx 0 bs = hx acc (bs.drop k)
set_option maxRecDepth 100000 in
set_option maxHeartbeats 8000000 in
theorem refBits_in (t : ByteArray) (h16 : t.size = 16) (w : World) :
    Calls Tryz.prog 44 #[.string t] w fun e w' => e = .returned (numEnd (hx 0 t.data.toList)) ∧ w = w' := by
  obtain ⟨bs, hbs⟩ : ∃ bs, bs = t.data.toList := ⟨_, rfl⟩
  have hdr := drop_at t
  have hde := drop_end t
  rw [← hbs] at hdr hde ⊢
  clear hbs
  have HDR := Lib.hid hdr
  have HDE := Lib.hid hde
  clear hdr hde
  have hs : ((t.size : Int) != 16) = false := by rw [h16]; rfl
  have H16 := Lib.hid h16
  clear h16
  go_enter Tryz.func44, Tryz.ntmps44
  go_wp2_with fail
  go_loop [4, 5] (fun vn vi => ∃ (k acc : Nat), vn = .int .u64 (acc : Int) ∧ vi = .int .i64 (k : Int) ∧ k ≤ 16 ∧ accOK acc k bs)
    (fun _ vi => 16 - (RowKit.intOf vi).toNat)
  case atStart => exact ⟨0, 0, rfl, rfl, by omega, ⟨by decide, rfl⟩⟩
  case round =>
    obtain ⟨k, acc, rfl, rfl, hk, hh⟩ := hrel
    obtain ⟨hacc, hdec⟩ := hh
    by_cases hlt : k < 16
    · have hlt' : k < t.size := by have := H16.out; omega
      rw [HDR.out k hlt'] at hdec
      have hc256 : t[k].toNat < 256 := t[k].toNat_lt
      have hpow : 16 ^ k ≤ 16 ^ 15 := Nat.pow_le_pow_right (by omega) (by omega)
      have hacc15 : (acc : Int) < 1152921504606846976 := by
        have : (16 : Nat) ^ 15 = 1152921504606846976 := by decide
        omega
      have hd16' : decide ((k : Int) < 16) = true := by simp; omega
      have hnext : ∀ d : Nat, d < 16 → acc * 16 + d < 16 ^ (k + 1) := fun d hd => by rw [Nat.pow_succ]; omega
      by_cases hdig : 48 ≤ t[k].toNat ∧ t[k].toNat ≤ 57
      · obtain ⟨d0, d1⟩ := hdig
        have hF : hx acc (t[k] :: bs.drop (k + 1)) = hx (acc * 16 + (t[k].toNat - 48)) (bs.drop (k + 1)) := by rw [hx, if_pos ⟨d0, d1⟩]
        have HN : accOK (acc * 16 + (t[k].toNat - 48)) (k + 1) bs := And.intro (hnext (t[k].toNat - 48) (by omega)) (hdec.trans hF)
        have b0 : decide (48 ≤ (t[k].toNat : Int)) = true := by simp; omega
        have b1 : decide ((t[k].toNat : Int) ≤ 57) = true := by simp; omega
        have e1 : IntKind.u64.wrap (IntKind.u64.wrap (16 * (acc : Int) + (t[k].toNat : Int)) - 48) = ((acc * 16 + (t[k].toNat - 48) : Nat) : Int) := by rw [IntKind.wrap_u64, IntKind.wrap_u64]; omega
        have E1 := Lib.hid e1
        clear hdec hF hacc hpow hnext d0 d1 e1
        go_wp2_with fail
        refine ⟨⟨k + 1, acc * 16 + (t[k].toNat - 48), by first | rfl | (rw [E1.out]) | (congr 1; omega), by first | rfl | (congr 1; omega), by omega, HN⟩, by simp [RowKit.intOf]; omega⟩
      · by_cases hlet : 97 ≤ t[k].toNat ∧ t[k].toNat ≤ 102
        · obtain ⟨d0, d1⟩ := hlet
          have hF : hx acc (t[k] :: bs.drop (k + 1)) = hx (acc * 16 + (t[k].toNat - 87)) (bs.drop (k + 1)) := by rw [hx, if_neg hdig, if_pos ⟨d0, d1⟩]
          have HN : accOK (acc * 16 + (t[k].toNat - 87)) (k + 1) bs := And.intro (hnext (t[k].toNat - 87) (by omega)) (hdec.trans hF)
          have b0 : decide (48 ≤ (t[k].toNat : Int)) = true := by simp; omega
          have b1 : decide ((t[k].toNat : Int) ≤ 57) = false := by simp; omega
          have b2 : decide (97 ≤ (t[k].toNat : Int)) = true := by simp; omega
          have b3 : decide ((t[k].toNat : Int) ≤ 102) = true := by simp; omega
          have e1 : IntKind.u64.wrap (IntKind.u64.wrap (16 * (acc : Int) + (t[k].toNat : Int)) - 87) = ((acc * 16 + (t[k].toNat - 87) : Nat) : Int) := by rw [IntKind.wrap_u64, IntKind.wrap_u64]; omega
          have E1 := Lib.hid e1
          clear hdec hF hacc hpow hnext hdig d0 d1 e1
          go_wp2_with fail
          refine ⟨⟨k + 1, acc * 16 + (t[k].toNat - 87), by first | rfl | (rw [E1.out]) | (congr 1; omega), by first | rfl | (congr 1; omega), by omega, HN⟩, by simp [RowKit.intOf]; omega⟩
        · have hF : hx acc (t[k] :: bs.drop (k + 1)) = none := by rw [hx, if_neg hdig, if_neg hlet]
          have HE := Lib.hid (hdec.trans hF)
          clear hdec hF hacc hpow hnext
          have hcs : t[k].toNat < 48 ∨ (57 < t[k].toNat ∧ t[k].toNat < 97) ∨ 102 < t[k].toNat := by omega
          clear hdig hlet
          rcases hcs with hl | ⟨hl, hr⟩ | hl
          · have b0 : decide (48 ≤ (t[k].toNat : Int)) = false := by simp; omega
            have b2 : decide (97 ≤ (t[k].toNat : Int)) = false := by simp; omega
            clear hl
            go_wp2_with fail
            go_ret2
            exact ⟨by rw [HE.out]; rfl, rfl⟩
          · have b0 : decide (48 ≤ (t[k].toNat : Int)) = true := by simp; omega
            have b1 : decide ((t[k].toNat : Int) ≤ 57) = false := by simp; omega
            have b2 : decide (97 ≤ (t[k].toNat : Int)) = false := by simp; omega
            clear hl hr
            go_wp2_with fail
            go_ret2
            exact ⟨by rw [HE.out]; rfl, rfl⟩
          · have b0 : decide (48 ≤ (t[k].toNat : Int)) = true := by simp; omega
            have b1 : decide ((t[k].toNat : Int) ≤ 57) = false := by simp; omega
            have b2 : decide (97 ≤ (t[k].toNat : Int)) = true := by simp; omega
            have b3 : decide ((t[k].toNat : Int) ≤ 102) = false := by simp; omega
            clear hl
            go_wp2_with fail
            go_ret2
            exact ⟨by rw [HE.out]; rfl, rfl⟩
    · obtain rfl : k = 16 := by omega
      rw [← H16.out, HDE.out] at hdec
      have HE := Lib.hid hdec
      clear hdec hacc
      go_wp2_with fail
      go_ret2
      exact ⟨by rw [HE.out]; rfl, rfl⟩
set_option maxRecDepth 100000 in
theorem refBits_is (t : ByteArray) (w : World) :
    Calls Tryz.prog 44 #[.string t] w fun e w' => e = .returned (numEnd (hexD t.data.toList)) ∧ w = w' := by
  have hsz := Lib.size_eq t
  by_cases h16 : t.size = 16
  · unfold hexD
    rw [if_pos (by omega)]
    exact refBits_in t h16 w
  · unfold hexD
    rw [if_neg (by omega)]
    have hs : ((t.size : Int) != 16) = true := by simp; omega
    have H := Lib.hid h16
    clear h16 hsz
    go_enter Tryz.func44, Tryz.ntmps44
    go_wp2_with fail
    go_ret2
    exact ⟨rfl, rfl⟩
end Go.Proofs.YthohoendjipleaaGreatDoor
