/-
  The reference Parse: the text of a word gives the word, any other text an error. Conditions: the text is shorter than 2^48 bytes.
-/
import Derived.Test.YtllcppdgamagoaaDoorK
import Derived.LoopTactic
namespace Go.Proofs.YtllcppdgamagoaaDoor
open Go.RowKit Go.Sort
theorem wd_parts (v r : Int) (p q : Bool) (h0 : 0 ≤ v) (h1 : v ≤ 4611686018427387903) (hr : r = wd v p q) :
    0 ≤ r ∧ r ≤ 18446744073709551615 ∧ r / 4 = v ∧ decide (r % 2 = 1) = p ∧ decide (r / 2 % 2 = 1) = q := by
  subst hr
  cases p <;> cases q <;> simp [wd] <;> omega

set_option maxRecDepth 100000 in
set_option maxHeartbeats 1000000 in
theorem refParse_no (s : ByteArray) (hlim : s.size ≤ 281474976710656) (hs : ∀ (u : Nat) (p q : Bool), u ≤ 4611686018427387903 → s.data.toList ≠ showL u p q) (w : World) :
    Calls Tryd.prog 38 #[.string s] w fun e w' => e = .returned (.tuple #[.int .u64 0, .int .i64 7]) ∧ Later w w' := by
  have HS := Lib.hid hs
  clear hs
  go_enter Tryd.func38, Tryd.ntmps38
  go_wp2_with fail
  go_loop [4, 5] (fun n i => ∃ (k : Nat) (a : Int), i = .int .i64 k ∧ n = .int .u64 a ∧ k ≤ s.size ∧ k ≤ 20 ∧ 0 ≤ a ∧ a ≤ 18446744073709551615) (fun _ i => 20 - (RowKit.intOf i).toNat)
  case atStart => exact ⟨0, 0, rfl, rfl, by omega, by omega, by omega, by omega⟩
  case round =>
    obtain ⟨k, a, rfl, rfl, hk, hk20, a0, a1⟩ := hrel
    go_wp2_with fail
    · go_round
      case rel => exact ⟨k + 1, _, by go_num, rfl, by omega, by omega, by rw [IntKind.wrap_u64]; omega, by rw [IntKind.wrap_u64]; omega⟩
      case measure => simp [RowKit.intOf]; omega
    all_goals first | (go_ret2; exact ⟨rfl, Later.refl _⟩) | skip
    all_goals
      go_loopw [6, 7, 8] (fun c _ _ wr => ∃ j : Nat, j ≤ 4 ∧ c = .int .i64 j ∧ Later w wr) (fun c _ _ _ => 4 - (RowKit.intOf c).toNat)
      case atStart => exact ⟨0, by omega, rfl, Later.refl _⟩
      case round =>
        obtain ⟨j, hj, rfl, hlw⟩ := hrel
        by_cases hj4 : j < 4
        · by_cases hbig : a ≤ 4611686018427387903
          · obtain ⟨p, hp⟩ : ∃ p, (((j : Nat) : Int) % 2 == 1) = p := ⟨_, rfl⟩
            obtain ⟨q, hq⟩ : ∃ q, (((j : Nat) : Int) / 2 == 1) = q := ⟨_, rfl⟩
            obtain ⟨u, hu⟩ : ∃ u : Nat, a = u := ⟨a.toNat, by omega⟩
            obtain ⟨r, hr⟩ : ∃ r, r = wd a p q := ⟨_, rfl⟩
            have hcm : (showL u p q == s.toList) = false := by rw [Lib.toList_data]; simp; exact fun h => HS.out u p q (by omega) h.symm
            obtain ⟨r0, r1, r4, rp, rq⟩ := wd_parts a r p q a0 hbig hr
            have HU := Lib.hid hu
            have HR := Lib.hid hr
            have R4 := Lib.hid (r4.trans hu)
            have RP := Lib.hid rp
            have RQ := Lib.hid rq
            clear hu hr r4 rp rq
            go_wp2_with fail
            refine (refNew_ok _ r _ _ _ a0 hbig HR.out).mono ?_
            rintro e w1 ⟨rfl, hb1⟩
            go_wp2_with fail
            refine (refShow_any _ u p q _ r0 r1 R4.out RP.out RQ.out).mono ?_
            rintro e w2 ⟨rfl, hb2⟩
            go_wp2_with fail
            go_roundw
            case rel => exact ⟨j + 1, by omega, by go_num, (hlw.trans hb1).trans hb2⟩
            case measure => simp [RowKit.intOf]; omega
          · go_wp2_with fail
            refine (refNew_big _ _ _ _ (by omega)).mono ?_
            rintro e w1 ⟨rfl, hb1⟩
            go_wp2_with fail
            go_roundw
            case rel => exact ⟨j + 1, by omega, by go_num, hlw.trans hb1⟩
            case measure => simp [RowKit.intOf]; omega
        · go_wp2_with fail
          go_ret2
          exact ⟨rfl, hlw⟩

theorem digits_len (n u : Nat) (h : u < 10 ^ (n + 1)) : (Lib.decDigits u).length ≤ n + 1 := by
  induction n generalizing u with
  | zero => rw [Lib.decDigits_one (by simpa using h)]; simp
  | succ n ih =>
    rw [Lib.decDigits]
    by_cases h10 : u < 10
    · rw [dif_pos h10]; simp
    · rw [dif_neg h10, List.length_append]
      have := ih (u / 10) (by rw [Nat.pow_succ] at h; omega)
      simp; omega
theorem digits_19 (u : Nat) (h : u ≤ 4611686018427387903) : (Lib.decDigits u).length ≤ 19 := digits_len 18 u (by omega)
/-- the number of a row's first digits -/
theorem pu_take {l : List UInt8} {u : Nat} (h : pu 0 l = some u) (k : Nat) (hk : k < l.length) :
    ∃ v c, pu 0 (l.take k) = some v ∧ l[k]? = some c ∧ 48 ≤ c.toNat ∧ c.toNat ≤ 57 ∧ v * 10 + (c.toNat - 48) ≤ 4611686018427387903 ∧ pu 0 (l.take (k + 1)) = some (v * 10 + (c.toNat - 48)) := by
  have e : l = l.take k ++ (l[k] :: l.drop (k + 1)) := by rw [← List.drop_eq_getElem_cons hk, List.take_append_drop]
  have h2 := h
  rw [e, pu_append] at h2
  cases hv : pu 0 (l.take k) with
  | none => rw [hv] at h2; cases h2
  | some v =>
    rw [hv, Option.bind_some, pu] at h2
    split at h2
    · rename_i hc
      refine ⟨v, l[k], rfl, List.getElem?_eq_getElem hk, hc.1, hc.2.1, hc.2.2, ?_⟩
      rw [List.take_succ_eq_append_getElem hk, pu_append, hv, Option.bind_some, pu, if_pos hc]
      rfl
    · cases h2

/-- which round of the reference's search finds the marks -/
def markN (p q : Bool) : Nat := (if p then 1 else 0) + (if q then 2 else 0)
theorem markN_le (p q : Bool) : markN p q ≤ 3 := by cases p <;> cases q <;> decide
theorem markN_at (p q : Bool) (j : Nat) (hj : j ≤ 3) : (((j : Int) % 2 == 1) = p ∧ ((j : Int) / 2 == 1) = q) ↔ j = markN p q := by
  have h : j = 0 ∨ j = 1 ∨ j = 2 ∨ j = 3 := by omega
  rcases h with rfl | rfl | rfl | rfl <;> cases p <;> cases q <;> decide

set_option maxRecDepth 100000 in
set_option maxHeartbeats 1000000 in
theorem refParse_yes (s : ByteArray) (u : Nat) (p q : Bool) (hs : s.data.toList = showL u p q) (hu : u ≤ 4611686018427387903) (w : World) :
    Calls Tryd.prog 38 #[.string s] w fun e w' => e = .returned (.tuple #[.int .u64 (wd u p q), .int .i64 0]) ∧ Later w w' := by
  have hpu := pu_digits u hu
  have hd19 := digits_19 u hu
  obtain ⟨D, hD⟩ : ∃ D, Lib.decDigits u = D := ⟨_, rfl⟩
  have hcmp : ∀ (p' q' : Bool), (showL u p' q' == s.toList) = (p' == p && q' == q) := fun p' q' => by
    rw [Lib.toList_data, hs]
    cases hb : (p' == p && q' == q) with
    | true =>
      simp only [Bool.and_eq_true, beq_iff_eq] at hb
      obtain ⟨rfl, rfl⟩ := hb
      simp
    | false =>
      rw [beq_eq_false_iff_ne]
      intro h
      obtain ⟨_, rfl, rfl⟩ := showL_inj hu hu h
      simp at hb
  obtain ⟨rest, hL, hrest⟩ : ∃ rest, s.data.toList = D ++ rest ∧ (rest = [] ∨ ∃ c r, rest = c :: r ∧ (c.toNat = 43 ∨ c.toNat = 120)) := by
    refine ⟨_, by rw [hs, showL, hD], ?_⟩
    cases p
    · cases q
      · exact .inl rfl
      · exact .inr ⟨120, [], rfl, .inr rfl⟩
    · exact .inr ⟨43, _, rfl, .inl rfl⟩
  rw [hD] at hpu hd19
  have hsz : s.size = D.length + rest.length := by rw [Lib.size_eq, hL, List.length_append]
  have hat : ∀ k (hk : k < s.size), s.data.toList[k]? = some s[k] := fun k hk => by
    rw [List.getElem?_eq_getElem (by rw [← Lib.size_eq]; exact hk)]; rfl
  have hdig : ∀ k, k < D.length → ∃ (v : Nat) (hk : k < s.size), pu 0 (D.take k) = some v ∧ 48 ≤ s[k].toNat ∧ s[k].toNat ≤ 57 ∧ v * 10 + (s[k].toNat - 48) ≤ 4611686018427387903 ∧ pu 0 (D.take (k + 1)) = some (v * 10 + (s[k].toNat - 48)) := fun k hk => by
    obtain ⟨v, c, h1, h2, h3⟩ := pu_take hpu k hk
    have hks : k < s.size := by omega
    have h4 := hat k hks
    rw [hL, List.getElem?_append_left hk, h2, Option.some.injEq] at h4
    subst h4
    exact ⟨v, hks, h1, h3⟩
  have hend : ∀ (hk : D.length < s.size), s[D.length].toNat = 43 ∨ s[D.length].toNat = 120 := fun hk => by
    have h4 := hat _ hk
    rw [hL, List.getElem?_append_right (Nat.le_refl _), Nat.sub_self] at h4
    rcases hrest with rfl | ⟨c, r, rfl, hc⟩
    · simp at h4
    · simp at h4
      rw [← h4]; exact hc
  have HC := Lib.hid hcmp
  have HG := Lib.hid hdig
  have HE := Lib.hid hend
  have HPU := Lib.hid hpu
  clear hcmp hdig hend hat hL hrest hs hD hpu
  have hz : D.length ≤ s.size := by omega
  clear hsz
  go_enter Tryd.func38, Tryd.ntmps38
  go_wp2_with fail
  go_loop [4, 5] (fun n i => ∃ (k v : Nat), i = .int .i64 k ∧ n = .int .u64 v ∧ k ≤ D.length ∧ Hid (pu 0 (D.take k) = some v)) (fun _ i => D.length - (RowKit.intOf i).toNat)
  case atStart => exact ⟨0, 0, rfl, rfl, by omega, rfl⟩
  case round =>
    obtain ⟨k, v, rfl, rfl, hk, hv⟩ := hrel
    by_cases hkd : k < D.length
    · obtain ⟨v', hks, hv', g0, g1, g2, g3⟩ := HG.out k hkd
      obtain rfl : v' = v := by have := hv.out; rw [hv'] at this; simpa using this
      have i0 : 48 ≤ (s[k].toNat : Int) := by omega
      have i1 : (s[k].toNat : Int) ≤ 57 := by omega
      have i2 : (v' : Int) * 10 + ((s[k].toNat : Int) - 48) ≤ 4611686018427387903 := by omega
      have i3 : ((v' : Int) * 10 + ((s[k].toNat : Int) - 48)) = ((v' * 10 + (s[k].toNat - 48) : Nat) : Int) := by omega
      have HI := Lib.hid i3
      have H3 := Lib.hid g3
      clear hv' g0 g1 g2 g3 i3
      go_wp2_with fail
      go_round
      case rel => exact ⟨k + 1, v' * 10 + (s[k].toNat - 48), by go_num, by rw [HI.out], by omega, H3.out⟩
      case measure => simp [RowKit.intOf]; omega
    · obtain rfl : k = D.length := by omega
      obtain rfl : v = u := by have := hv.out; rw [List.take_length, HPU.out] at this; simpa using this.symm
      clear hkd hv
      by_cases hks : D.length < s.size
      all_goals
        first | (have hx1 := HE.out hks) | skip
        go_wp2_with fail
        all_goals
          go_loopw [6, 7, 8] (fun c _ _ wr => ∃ j : Nat, j ≤ markN p q ∧ c = .int .i64 j ∧ Later w wr) (fun c _ _ _ => 4 - (RowKit.intOf c).toNat)
          case atStart => exact ⟨0, by omega, rfl, Later.refl _⟩
          case round =>
            obtain ⟨j, hj, rfl, hlw⟩ := hrel
            have hm3 := markN_le p q
            obtain ⟨p', hp'⟩ : ∃ p', (((j : Nat) : Int) % 2 == 1) = p' := ⟨_, rfl⟩
            obtain ⟨q', hq'⟩ : ∃ q', (((j : Nat) : Int) / 2 == 1) = q' := ⟨_, rfl⟩
            have hmk := markN_at p q j (by omega)
            rw [hp', hq'] at hmk
            obtain ⟨r, hr⟩ : ∃ r, r = wd v p' q' := ⟨_, rfl⟩
            obtain ⟨r0, r1, r4, rp, rq⟩ := wd_parts v r p' q' (by omega) (by omega) hr
            have HR := Lib.hid hr
            have R4 := Lib.hid r4
            have RP := Lib.hid rp
            have RQ := Lib.hid rq
            have hcm := HC.out p' q'
            by_cases hjm : j = markN p q
            · obtain ⟨rfl, rfl⟩ := hmk.2 hjm
              have hc2 : (showL v p' q' == s.toList) = true := by rw [hcm]; simp
              have hj3 : j ≤ 3 := by omega
              clear hr r4 rp rq hcm hmk hjm hj
              go_wp2_with fail
              refine (refNew_ok _ r _ _ _ (by omega) (by omega) HR.out).mono ?_
              rintro e w1 ⟨rfl, hb1⟩
              go_wp2_with fail
              refine (refShow_any _ v p' q' _ r0 r1 R4.out RP.out RQ.out).mono ?_
              rintro e w2 ⟨rfl, hb2⟩
              go_wp2_with fail
              go_ret2
              refine ⟨?_, (hlw.trans hb1).trans hb2⟩
              rw [← HR.out]
              rfl
            · have hc2 : (showL v p' q' == s.toList) = false := by
                rw [hcm]
                cases hb : (p' == p && q' == q) with
                | false => rfl
                | true =>
                  simp only [Bool.and_eq_true, beq_iff_eq] at hb
                  exact absurd (hmk.1 hb) hjm
              have hj3 : j < markN p q := by omega
              have hj2 : j ≤ 2 := by omega
              clear hr r4 rp rq hcm hmk hjm hj
              go_wp2_with fail
              refine (refNew_ok _ r _ _ _ (by omega) (by omega) HR.out).mono ?_
              rintro e w1 ⟨rfl, hb1⟩
              go_wp2_with fail
              refine (refShow_any _ v p' q' _ r0 r1 R4.out RP.out RQ.out).mono ?_
              rintro e w2 ⟨rfl, hb2⟩
              go_wp2_with fail
              go_roundw
              case rel => exact ⟨j + 1, by omega, by go_num, (hlw.trans hb1).trans hb2⟩
              case measure => simp [RowKit.intOf]; omega
end Go.Proofs.YtllcppdgamagoaaDoor
