/-
  The reference's Rate, walked. Conditions: the counters are words.
-/
import Derived.Test.YthohoendjipleaaGreatDoorDt
import Derived.Test.YthohoendjipleaaGreatDoorPq
namespace Go.Proofs.YthohoendjipleaaGreatDoor
open Go.RowKit Go.Lib
set_option linter.unusedSimpArgs false
set_option linter.unusedVariables false

theorem nX_cast (x : Nat → Int) (hx : okX x) (j : Nat) : ((nX x j : Nat) : Int) = x j := by
  have := hx j
  unfold nX
  omega
theorem nX_lt (x : Nat → Int) (hx : okX x) (j : Nat) : nX x j < 18446744073709551616 := by
  have := hx j
  unfold nX
  omega
theorem refTotal_is (x : Nat → Int) (hx : okX x) (a b : Nat) (w : World) :
    Calls Tryz.prog 25 #[.agg #[.int .u64 (x 0), .int .u64 (x 1), .int .u64 (x 2), .int .u64 (x 3), .int .u64 (x 4), .int .u64 (x 5), .int .u64 (x 6), .int .u64 (x 7), .int .u64 (x 8), .int .u64 (x 9), .complex .f64 a b]] w fun e w' => ∃ v, e = .returned v ∧ Dig w' v (sumX x 5) ∧ Later w w' := by
  have h := total25_in (nX x 0) (nX x 1) (nX x 2) (nX x 3) (nX x 4) (nX x 5) (nX x 6) (nX x 7) (nX x 8) (nX x 9) (nX_lt x hx 2) (nX_lt x hx 3) (nX_lt x hx 4) (nX_lt x hx 5) (nX_lt x hx 6) a b w
  simp only [nX_cast x hx] at h
  have e : sumX x 5 = nX x 2 + nX x 3 + nX x 4 + nX x 5 + nX x 6 := by simp [sumX]
  rw [e]
  exact h
theorem pow30 : (10 : Nat) ^ 30 = 1000000000000000000000000000000 := by decide
theorem rate_unique {T H k : Nat} (hT : T ≠ 0) (h1 : k ≤ 1000) (h2 : k * T ≤ 1000 * H) (h3 : k = 1000 ∨ 1000 * H < (k + 1) * T) : rateN T H = k := by
  obtain ⟨r1, r2, r3⟩ := rateN_is T H
  rcases Nat.lt_trichotomy (rateN T H) k with h | h | h
  · exfalso
    have h4 : T * (rateN T H + 1) ≤ T * k := Nat.mul_le_mul_left T h
    rw [Nat.mul_comm T k] at h4
    rcases r3 with r3 | r3 <;> omega
  · exact h
  · exfalso
    have h4 : (k + 1) * T ≤ rateN T H * T := Nat.mul_le_mul_right T h
    rw [Nat.mul_comm T] at r2
    rcases h3 with h3 | h3 <;> omega
theorem dig_len_zero {n : Nat} : (dg n).length = 0 ↔ n = 0 := by
  constructor
  · intro h; exact dg_nil.1 (List.eq_nil_of_length_eq_zero h)
  · intro h; rw [h, dg_zero]; rfl
set_option maxRecDepth 100000 in
set_option maxHeartbeats 16000000 in
theorem refRate_is (x : Nat → Int) (hx : okX x) (a b : Nat) (w : World) :
    Calls Tryz.prog 10 #[.agg #[.int .u64 (x 0), .int .u64 (x 1), .int .u64 (x 2), .int .u64 (x 3), .int .u64 (x 4), .int .u64 (x 5), .int .u64 (x 6), .int .u64 (x 7), .int .u64 (x 8), .int .u64 (x 9), .complex .f64 a b]] w fun e w' => e = .returned (.int .i64 (rateX x : Nat)) ∧ Later w w' := by
  obtain ⟨i0, hi0, hiz, his, hib⟩ := info_parts info3
  have hTle : sumX x 5 ≤ 5 * 18446744073709551615 := sumX_le x hx 5
  obtain ⟨T, hT⟩ : ∃ T, sumX x 5 = T := ⟨_, rfl⟩
  obtain ⟨H, hH⟩ : ∃ H, nX x 7 = H := ⟨_, rfl⟩
  have hHlt : H < 18446744073709551616 := by rw [← hH]; exact nX_lt x hx 7
  have hx7 : x 7 = (H : Int) := by rw [← hH]; exact (nX_cast x hx 7).symm
  have HT := Lib.hid (fun W => refTotal_is x hx a b W)
  have HR := Lib.hid (show rateX x = if T = 0 then 0 else rateN T H by unfold rateX; rw [hT, hH])
  rw [hT] at hTle HT
  have HB := Lib.hid (And.intro hTle hHlt)
  have HX7 := Lib.hid hx7
  clear hx hT hH hTle hHlt hx7
  go_enter Tryz.func10, Tryz.ntmps10
  go_upto_region 1 with fail
  have hl1 := (Later.refl w).alloc (.cells (xRow x a b) 27)
  have hb := (MapKept.heap_alloc w (.cells (xRow x a b) 27)).1
  obtain ⟨W, hW⟩ : ∃ W, w.alloc (.cells #[.int .u64 (x 0), .int .u64 (x 1), .int .u64 (x 2), .int .u64 (x 3), .int .u64 (x 4), .int .u64 (x 5), .int .u64 (x 6), .int .u64 (x 7), .int .u64 (x 8), .int .u64 (x 9), .complex .f64 a b] 27) = W := ⟨_, rfl⟩
  have hW' : w.alloc (.cells (xRow x a b) 27) = W := hW
  obtain ⟨S, hS⟩ : ∃ S, w.heap.size = S := ⟨_, rfl⟩
  rw [hW'] at hl1 hb
  rw [hS] at hb
  rw [hW, hS]
  obtain ⟨⟨u0, u1, u2, u3, u4, u5⟩, u6, u7, u8, u9, u10⟩ := setRow_cellsR hb
  have HBK := Lib.hid hb
  have HSZ := Lib.hid (show S < W.heap.size from (Array.getElem?_eq_some_iff.1 hb).1)
  have HL1 := Lib.hid hl1
  clear hW hW' hS hl1 hb
  go_wp2_with fail
  refine (HT.out _).mono ?_
  rintro e w2 ⟨tv, rfl, hdt, hl2⟩
  have hDT := hdt
  obtain ⟨pt, ct, rfl, hct, hcells⟩ := hdt
  have h7 : w2.cell? ⟨S, 7, none⟩ = some (.int .u64 (H : Int)) := by
    rw [← HX7.out]
    exact cell_at hl2 u7 HSZ.out
  have HL2 := Lib.hid (HL1.out.trans hl2)
  have HDT := Lib.hid hDT
  obtain ⟨lt, hlt⟩ : ∃ lt, (dg T).length = lt := ⟨_, rfl⟩
  have hz := dig_len_zero (n := T)
  rw [hlt] at hz hct HDT ⊢
  have HZ := Lib.hid hz
  clear u0 u1 u2 u3 u4 u5 u6 u7 u8 u9 u10 hl2 hDT hcells HBK HSZ HL1 HT hlt hz
  by_cases hT0 : T = 0
  · have hl0 : lt = 0 := HZ.out.2 hT0
    subst hl0
    go_wp2_with fail
    go_ret
    refine ⟨?_, HL2.out⟩
    rw [HR.out, if_pos hT0]; rfl
  · have hl0 : lt ≠ 0 := fun h => hT0 (HZ.out.1 h)
    have dl : ((lt : Int) == 0) = false := by rw [beq_eq_false_iff_ne]; omega
    have hT0' := Lib.hid hT0
    clear hT0
    go_wp2_with fail
    refine (digits25_is H HB.out.2 _).mono ?_
    rintro e w3 ⟨gv, rfl, hdg, hl3⟩
    have HL3 := Lib.hid (HL2.out.trans hl3)
    have HDT3 := Lib.hid (HDT.out.later hl3)
    clear hl3 h7
    -- the goal: three zeros ahead
    obtain ⟨pg, cg, rfl, hcg, hgc⟩ := hdg
    obtain ⟨lg, hlg⟩ : ∃ lg, (dg H).length = lg := ⟨_, rfl⟩
    have HLG := Lib.hid hlg
    have HGC := Lib.hid hgc
    rw [hlg] at hcg ⊢
    clear hlg hgc
    go_upto_if 17 with fail
    go_cut [4] from 17 to 20 (fun s4 V => Dig V s4 (1000 * H) ∧ Dig V (.slice pt lt ct) T ∧ Later w V)
    case first =>
      have hgc := HGC.out
      have hlg := HLG.out
      by_cases hH0 : H = 0
      · subst hH0
        have e0 : (dg 0).length = 0 := by rw [dg_zero]; rfl
        obtain rfl : lg = 0 := by omega
        have HGG := Lib.hid (show Dig w3 (.slice pg 0 cg) (1000 * 0) from ⟨pg, cg, by rw [Nat.mul_zero, e0], by rw [Nat.mul_zero, e0]; omega, fun j d hd => by rw [Nat.mul_zero, dg_zero] at hd; simp at hd⟩)
        clear hgc hcg e0 hlg
        go_wp2_with fail
        go_meet
        case rel => exact ⟨HGG.out, HDT3.out, HL3.out⟩
      · rw [← hlg] at hcg
        have hlen := dg_len_le H 20 (by have := HB.out.2; omega)
        have hpos : (dg H).length ≠ 0 := fun h => hH0 (dig_len_zero.1 h)
        obtain ⟨g, rfl, hg2, -⟩ := hgc 0 (H / 10 ^ 0 % 10) (dg_get (by omega))
        have hcs : ∀ (j d : Nat), (dg H)[j]? = some d → w3.cell? ⟨g, j, none⟩ = some (.int .i64 (d : Int)) := fun j d hd => by
          obtain ⟨g', e1, e2, e3⟩ := hgc j d hd
          simp only [Option.some.injEq, Addr.mk.injEq] at e1
          obtain ⟨rfl, _⟩ := e1
          exact e3
        have hmk : w3.heap.size ≤ w3.heap.size → (w3.alloc (.cells #[.int .i64 0, .int .i64 0, .int .i64 0] 3)).ownsRow w3.heap.size 3 1 (.slice (some ⟨w3.heap.size, 0, none⟩) 3 3) 3 (digC [0, 0, 0]) := fun _ =>
          ⟨rfl, .inr ⟨w3.heap.size, 3, _, rfl, Nat.le_refl _, (MapKept.heap_alloc w3 _).1, Nat.le_refl _, by unfold maxLen; omega, rfl, rfl⟩⟩
        have HMK := Lib.hid (hmk (Nat.le_refl _))
        have HCS := Lib.hid hcs
        have HHN := Lib.hid (dg_thousand H hH0)
        rw [hlg] at hcg hlen hpos
        have dg1 : decide (0 < (lg : Int)) = true := by simp; omega
        have dg2 : decide (0 < lg) = true := by simp; omega
        clear hgc hcs hlg hH0
        go_wp2_with (first | (refine wpList_append_own _ rfl (.tmp 18) (.tmp 19) 68 rfl w3.heap.size 3 i0 _ 1 8 Tryz.underlying68 hi0 hiz his hib rfl (by decide) _ _ _ rfl HMK.out ⟨g, 0, none⟩ lg cg (digC (dg H)) rfl ?c0 ?c1 ?c2 ?c3 ?c4 ?c5 ?_))
        case c0 => rw [digC_length, HLG.out, Nat.mul_one]
        case c1 =>
          intro j u hu
          rw [addr_add]
          simp only [digC, List.getElem?_map, Option.map_eq_some_iff] at hu
          obtain ⟨d, hd, rfl⟩ := hu
          exact Lib.cell?_alloc_some _ (HCS.out j d hd)
        case c2 =>
          intro u hu
          simp only [digC, List.mem_map] at hu
          obtain ⟨d, _, rfl⟩ := hu
          rfl
        case c3 => (unfold maxLen; omega)
        case c4 => omega
        case c5 => simp
        intro v' w6 hown' hgrow _
        have hlw : Later w3 w6 := Below.grown ((Later.refl w3).alloc _) hgrow (by simp) (by intro k hk; simp [Value.ownBlock] at hk; omega)
        have hgoal : Dig w6 v' (1000 * H) := by
          have e1 : digC [0, 0, 0] ++ digC (dg H) = digC (dg (1000 * H)) := by rw [HHN.out]; rfl
          rw [e1] at hown'
          exact Dig.of_owns hown' (by rw [HHN.out]; simp only [List.length_cons]; rw [HLG.out]; omega)
        have HF := Lib.hid (And.intro hgoal (And.intro (HDT3.out.later hlw) (HL3.out.trans hlw)))
        clear hown' hgrow hlw hgoal
        go_wp2_with fail
        go_meet
        case rel => exact HF.out
    case rest =>
      obtain ⟨hg4, ht4, hl4⟩ := hcut
      have HG4 := Lib.hid hg4
      have hI0 : Dig wc (.slice pt lt ct) ((0 + 1) * T) := by rw [Nat.zero_add, Nat.one_mul]; exact ht4
      have HI0 := Lib.hid hI0
      have HL4 := Lib.hid hl4
      have HT4 := Lib.hid ht4
      clear HDT3 HL3 HGC HLG HL2 HDT hg4 ht4 hl4 hI0
      go_wp2_with fail
      go_loopw [5, 6] (fun s5 s6 wr => ∃ k : Nat, s5 = .int .i64 (k : Int) ∧ k ≤ 1000 ∧ Hid (k * T ≤ 1000 * H) ∧ Dig wr s6 ((k + 1) * T) ∧ Later wc wr) (fun s5 _ _ => 1000 - (RowKit.intOf s5).toNat)
      case atStart => exact ⟨0, rfl, by omega, Lib.hid (by omega), HI0.out, Later.refl _⟩
      case round =>
        obtain ⟨k, rfl, hk, hkT, hnow, hlr⟩ := hrel
        rename World => wk
        have HKT := Lib.hid hkT
        have HNOW := Lib.hid hnow
        have HLR := Lib.hid hlr
        have hkb : (k + 1) * T ≤ 1001 * (5 * 18446744073709551615) := Nat.mul_le_mul (by omega) HB.out.1
        have HKB := Lib.hid hkb
        clear hkT hnow hlr hkb
        by_cases hk1 : k < 1000
        · have dk : decide ((k : Int) < 1000) = true := by simp; omega
          have dk2 : decide (k < 1000) = true := by simpa using hk1
          have HLS := Lib.hid (less25_is (1000 * H) ((k + 1) * T) _ _ wk (HG4.out.later HLR.out) HNOW.out (by rw [pow30]; have := HB.out.2; omega) (by rw [pow30]; have := HKB.out; omega))
          by_cases hless : 1000 * H < (k + 1) * T
          · rw [decide_eq_true hless] at HLS
            have HE := Lib.hid (rate_unique hT0'.out hk HKT.out.out (.inr hless))
            clear hless
            go_wp2_with fail
            refine HLS.out.mono ?_
            rintro e w5 ⟨rfl, hl5⟩
            have HL5 := Lib.hid (HL4.out.trans (HLR.out.trans hl5))
            clear hl5
            go_wp2_with fail
            go_ret
            refine ⟨?_, HL5.out⟩
            rw [HR.out, if_neg hT0'.out, HE.out]; rfl
          · rw [decide_eq_false hless] at HLS
            have HNL := Lib.hid (show (k + 1) * T ≤ 1000 * H by omega)
            have hs1 := fun W (hW : Later wk W) => sum25_is ((k + 1) * T) T _ _ W (HNOW.out.later hW) (HT4.out.later (HLR.out.trans hW)) (by rw [pow30]; have := HKB.out; have := HB.out.1; omega)
            have HS1 := Lib.hid hs1
            have heq : (k + 1) * T + T = (k + 1 + 1) * T := by rw [Nat.add_mul (k + 1) 1 T, Nat.one_mul]
            have HEQ := Lib.hid heq
            clear hless hs1 heq
            go_wp2_with fail
            refine HLS.out.mono ?_
            rintro e w5 ⟨rfl, hl5⟩
            have HL5 := Lib.hid hl5
            clear hl5
            go_wp2_with fail
            refine (HS1.out _ HL5.out).mono ?_
            rintro e w6 ⟨v6, rfl, hd6, hl6⟩
            rw [HEQ.out] at hd6
            have HF := Lib.hid (And.intro hd6 (HLR.out.trans (HL5.out.trans hl6)))
            clear hd6 hl6
            go_wp2_with fail
            go_roundw
            case rel => exact ⟨k + 1, by go_num, by omega, HNL, HF.out⟩
            case measure => simp [RowKit.intOf]; omega
        · obtain rfl : k = 1000 := by omega
          have HE := Lib.hid (rate_unique hT0'.out hk HKT.out.out (.inl rfl))
          have HL5 := Lib.hid (HL4.out.trans HLR.out)
          clear hk1
          go_wp2_with fail
          go_ret
          refine ⟨?_, HL5.out⟩
          rw [HR.out, if_neg hT0'.out, HE.out]; rfl
end Go.Proofs.YthohoendjipleaaGreatDoor
