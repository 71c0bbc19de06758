/-
  The law StatOrder, walked. Conditions: the deeds read as said; the library's tables read as the program's text lays them.
-/
import Derived.Test.YthohoendjipleaaDoorOq
import Derived.Test.YthohoendjipleaaDoorAw
import Derived.Deep.CutBlock
namespace Go.Proofs.YthohoendjipleaaDoor
open Go.RowKit Go.Sort Go.Lib
set_option linter.unusedSimpArgs false
set_option linter.unusedVariables false

/-- the loads of the deeds -/
def lA (ls : List (List Int)) (i : Nat) : Nat := ldR ((ls.getD i []).take 60)
def lB (ls : List (List Int)) (i : Nat) : Nat := ldI ((ls.getD i []).take 60)
theorem lA_le (ls : List (List Int)) (i : Nat) : lA ls i ≤ W2 := ldR_le _
theorem lB_le (ls : List (List Int)) (i : Nat) : lB ls i ≤ W2 := ldI_le _

set_option maxRecDepth 100000 in
set_option maxHeartbeats 16000000 in
theorem StatOrder_is (v : Value) (ls : List (List Int)) (w : World) (hd : DD w v ls) (hE : Env w) :
    Calls Tryd.prog 7 #[v] w fun e w' => e = .returned (.bool true) ∧ Later w w' := by
  obtain ⟨i0, hi0, hiz, his, hib⟩ := info_parts info29
  have HE := Lib.hid hE
  have HD := Lib.hid hd
  clear hE hd
  go_enter Tryd.func7, Tryd.ntmps7
  go_upto_region 2 with fail
  go_cut [15, 16, 17] from 11 to 17 (fun s15 s16 s17 V => s17 = .int .i64 0 ∧ Later w V ∧ ∃ n : Nat, n ≤ 20 ∧ s16 = .int .i64 (n : Int) ∧ (n ≠ 0 → ∃ b o cap, s15 = .slice (some ⟨b, o, none⟩) n cap ∧ b < w.heap.size ∧ n ≤ cap ∧ ∀ i, i < n → ∃ vi, w.cell? ⟨b, o + i, none⟩ = some vi ∧ Deeds w vi (ls.getD i [])))
  case first =>
    rcases HD.out with ⟨rfl, rfl⟩ | ⟨ad, c', rfl, rfl⟩ | ⟨b, o, cap, rfl, hb, hcap, hlen, hc⟩
    · go_wp2_with fail
      go_meet
      exact ⟨rfl, by repeat (first | exact Later.refl _ | assumption | apply Later.alloc | apply Later.drew | apply Later.drewN | refine Later.trans ?_ (by assumption)), 0, by omega, rfl, fun h => absurd rfl h⟩
    · go_wp2_with fail
      go_meet
      exact ⟨rfl, by repeat (first | exact Later.refl _ | assumption | apply Later.alloc | apply Later.drew | apply Later.drewN | refine Later.trans ?_ (by assumption)), 0, by omega, rfl, fun h => absurd rfl h⟩
    · have HC := Lib.hid hc
      clear hc
      by_cases h20 : ls.length ≤ 20
      · have hcap2 : (ls.length : Int) ≤ (cap : Int) := by omega
        have hcap3 : min (ls.length : Int) 20 ≤ (cap : Int) := by omega
        go_wp2_with fail
        go_meet
        exact ⟨rfl, by repeat (first | exact Later.refl _ | assumption | apply Later.alloc | apply Later.drew | apply Later.drewN | refine Later.trans ?_ (by assumption)), ls.length, h20, by congr 1; omega, fun _ => ⟨b, o, cap, by congr 1; omega, hb, hcap, HC.out⟩⟩
      · have hcap2 : (20 : Int) ≤ (cap : Int) := by omega
        have hcap3 : min (ls.length : Int) 20 ≤ (cap : Int) := by omega
        go_wp2_with fail
        go_meet
        exact ⟨rfl, by repeat (first | exact Later.refl _ | assumption | apply Later.alloc | apply Later.drew | apply Later.drewN | refine Later.trans ?_ (by assumption)), 20, by omega, by congr 1; omega, fun _ => ⟨b, o, cap, by congr 1; omega, hb, by omega, fun i hi => HC.out i (by omega)⟩⟩
  case rest =>
  obtain ⟨rfl, hl1, n, hn20, rfl, hsl⟩ := hcut
  rename World => w1
  have HSL := Lib.hid hsl
  have HL1 := Lib.hid hl1
  clear hsl hl1
  go_upto_block 0 with fail
  go_cut [2, 3] from 18 to 31 (fun s2 s3 V => s2 = .bool false ∧ ∃ (A B : Nat → Nat), (∀ i, A i ≤ W2) ∧ (∀ i, B i ≤ W2) ∧ (n = 0 → s3 = .slice none 0 0) ∧ Later w V ∧ V.ownsRow w.heap.size 29 11 s3 n (stsC A B n))
  case first =>
    by_cases hn0 : n = 0
    · subst hn0
      go_wp2_with fail
      refine wp_loop_rounds 1 ?_
      rw [rounds_succ]
      go_wp2_with fail
      go_meet
      exact ⟨rfl, fun _ => 0, fun _ => 0, fun _ => Nat.zero_le _, fun _ => Nat.zero_le _, fun _ => rfl, HL1.out, World.ownsRow_nil _ _ _ _⟩
    · obtain ⟨b, o, cap, rfl, hb, hcap, hc⟩ := HSL.out hn0
      have HC := Lib.hid hc
      clear hc HSL
      have hcapn : (n : Int) ≤ (cap : Int) := by omega
      go_wp2_with fail
      go_loopw [3, 17] (fun s3 s17 wr => ∃ k : Nat, k ≤ n ∧ s17 = .int .i64 k ∧ (k = 0 → s3 = .slice none 0 0) ∧ Later w wr ∧ wr.ownsRow w.heap.size 29 11 s3 k (stsC (lA ls) (lB ls) k)) (fun _ s17 _ => n - (RowKit.intOf s17).toNat)
      case atStart => exact ⟨0, by omega, rfl, fun _ => rfl, HL1.out, World.ownsRow_nil _ _ _ _⟩
      case round =>
        obtain ⟨k, hk, rfl, hnil, hlr, hown⟩ := hrel
        rename World => wk
        by_cases hlt : k < n
        · have hkl : (k : Int) < (n : Int) := by omega
          have hk0 : (0 : Int) ≤ (k : Int) := by omega
          have hd1 : decide ((k : Int) < (n : Int)) = true := by simp; omega
          have hd2 : decide (k < n) = true := by simp; omega
          obtain ⟨vi, hvi, hdi⟩ := HC.out k (by omega)
          have hvk : wk.cell? ⟨b, o + k, none⟩ = some vi := cell_at hlr hvi hb
          obtain ⟨d, hd⟩ : ∃ d, ls.getD k [] = d := ⟨_, rfl⟩
          rw [hd] at hdi
          obtain ⟨LA, hLA⟩ : ∃ q, lA ls k = q := ⟨_, rfl⟩
          obtain ⟨LB, hLB⟩ : ∃ q, lB ls k = q := ⟨_, rfl⟩
          have HLA := Lib.hid (And.intro hLA hLB)
          have hA1 : ldR (d.take 60) = LA := by rw [← hLA, lA, hd]
          have hB1 : ldI (d.take 60) = LB := by rw [← hLB, lB, hd]
          have hdk := hdi.later hlr
          have HOWN := Lib.hid hown
          have HLR := Lib.hid hlr
          clear hown hlr hvi hdi hd hLA hLB hnil
          rcases hdk with ⟨rfl, rfl⟩ | ⟨ad, c', rfl, rfl⟩ | ⟨b', o', c', rfl, hb', hc', hl', hcell⟩
          · have hA2 : (0 : Nat) = LA := hA1
            have hB2 : (0 : Nat) = LB := hB1
            clear hA1 hB1
            subst hA2 hB2
            go_wp2_with fail
            refine (Of_nil _).mono ?_
            rintro e w5 ⟨rfl, hb5⟩
            skip
            have hL5 := HLR.out.trans hb5
            have HOW5 := Lib.hid (ownsRow_later HOWN.out hb5)
            have HL5 := Lib.hid hL5
            have hs5 : w.heap.size ≤ w5.heap.size := hL5.size
            clear hb5 hL5
            go_wp2_with (first | (refine wpList_append_own _ rfl (.tmp 21) (.tmp 29) 58 rfl w.heap.size 29 i0 _ 11 96 Tryd.underlying58 hi0 hiz his hib rfl (by decide) _ _ _ rfl (HOW5.out.alloc _) ⟨w5.heap.size, 0, none⟩ 1 1 [.int .u64 0, .int .u64 0, .int .u64 0, .int .u64 0, .int .u64 0, .int .u64 0, .int .u64 0, .int .u64 0, .int .u64 0, .int .u64 0, .complex .f64 (0) (0)] rfl rfl ?c1 ?c2 ?c3 ?c4 ?c5 ?_))
            case c1 => exact fun j u hu => by rw [addr_add, World.cell?_alloc_new]; simpa using hu
            case c2 => exact fun u hu => by revert u; simp [Value.oneCell']
            case c3 => (unfold maxLen; omega)
            case c4 => omega
            case c5 => (simp; omega)
            intro v' w6 hown' hgrow _
            have hnext : w6.ownsRow w.heap.size 29 11 v' (k + 1) (stsC (lA ls) (lB ls) (k + 1)) ∧ Later w w6 := ⟨by rw [← stsC_next, HLA.out.1, HLA.out.2]; exact hown', Below.grown (HL5.out.alloc _) hgrow (HL5.out.alloc _).size (fun j hj => (HOW5.out.lt j hj).1)⟩
            clear hown' hgrow
            go_wp2_with fail
            go_roundw
            case rel => exact ⟨k + 1, by omega, by go_num, fun h => by omega, hnext.2, hnext.1⟩
            case measure => simp [RowKit.intOf]; omega
          · have hA2 : (0 : Nat) = LA := hA1
            have hB2 : (0 : Nat) = LB := hB1
            clear hA1 hB1
            subst hA2 hB2
            go_wp2_with fail
            refine (Of_zero _ _ _).mono ?_
            rintro e w5 ⟨rfl, hb5⟩
            skip
            have hL5 := HLR.out.trans hb5
            have HOW5 := Lib.hid (ownsRow_later HOWN.out hb5)
            have HL5 := Lib.hid hL5
            have hs5 : w.heap.size ≤ w5.heap.size := hL5.size
            clear hb5 hL5
            go_wp2_with (first | (refine wpList_append_own _ rfl (.tmp 21) (.tmp 29) 58 rfl w.heap.size 29 i0 _ 11 96 Tryd.underlying58 hi0 hiz his hib rfl (by decide) _ _ _ rfl (HOW5.out.alloc _) ⟨w5.heap.size, 0, none⟩ 1 1 [.int .u64 0, .int .u64 0, .int .u64 0, .int .u64 0, .int .u64 0, .int .u64 0, .int .u64 0, .int .u64 0, .int .u64 0, .int .u64 0, .complex .f64 (0) (0)] rfl rfl ?c1 ?c2 ?c3 ?c4 ?c5 ?_))
            case c1 => exact fun j u hu => by rw [addr_add, World.cell?_alloc_new]; simpa using hu
            case c2 => exact fun u hu => by revert u; simp [Value.oneCell']
            case c3 => (unfold maxLen; omega)
            case c4 => omega
            case c5 => (simp; omega)
            intro v' w6 hown' hgrow _
            have hnext : w6.ownsRow w.heap.size 29 11 v' (k + 1) (stsC (lA ls) (lB ls) (k + 1)) ∧ Later w w6 := ⟨by rw [← stsC_next, HLA.out.1, HLA.out.2]; exact hown', Below.grown (HL5.out.alloc _) hgrow (HL5.out.alloc _).size (fun j hj => (HOW5.out.lt j hj).1)⟩
            clear hown' hgrow
            go_wp2_with fail
            go_roundw
            case rel => exact ⟨k + 1, by omega, by go_num, fun h => by omega, hnext.2, hnext.1⟩
            case measure => simp [RowKit.intOf]; omega
          · have HH := Lib.hid (And.intro hA1 hB1)
            clear hA1 hB1
            by_cases h60 : d.length ≤ 60
            · have hmin' : min (d.length : Int) 60 = (d.length : Int) := by omega
              have hcap2 : (d.length : Int) ≤ (c' : Int) := by omega
              have hdt : d.take 60 = d := List.take_of_length_le h60
              have HOF := Lib.hid (show Calls Tryd.prog 19 #[.slice (some ⟨b', o', none⟩) d.length c'] wk _ from Of_is b' o' d c' (by omega) wk hb' hcell)
              have HHd := HH.out
              rw [hdt] at HHd
              have HH2 := Lib.hid HHd
              clear hcell hdt HH HHd
              go_wp2_with fail
              refine (HOF.out).mono ?_
              rintro e w5 ⟨rfl, hb5⟩
              rw [HH2.out.1, HH2.out.2]
              have hL5 := HLR.out.trans hb5
              have HOW5 := Lib.hid (ownsRow_later HOWN.out hb5)
              have HL5 := Lib.hid hL5
              have hs5 : w.heap.size ≤ w5.heap.size := hL5.size
              clear hb5 hL5
              go_wp2_with (first | (refine wpList_append_own _ rfl (.tmp 21) (.tmp 29) 58 rfl w.heap.size 29 i0 _ 11 96 Tryd.underlying58 hi0 hiz his hib rfl (by decide) _ _ _ rfl (HOW5.out.alloc _) ⟨w5.heap.size, 0, none⟩ 1 1 [.int .u64 0, .int .u64 0, .int .u64 0, .int .u64 0, .int .u64 0, .int .u64 0, .int .u64 0, .int .u64 0, .int .u64 0, .int .u64 0, .complex .f64 (LA) (LB)] rfl rfl ?c1 ?c2 ?c3 ?c4 ?c5 ?_))
              case c1 => exact fun j u hu => by rw [addr_add, World.cell?_alloc_new]; simpa using hu
              case c2 => exact fun u hu => by revert u; simp [Value.oneCell']
              case c3 => (unfold maxLen; omega)
              case c4 => omega
              case c5 => (simp; omega)
              intro v' w6 hown' hgrow _
              have hnext : w6.ownsRow w.heap.size 29 11 v' (k + 1) (stsC (lA ls) (lB ls) (k + 1)) ∧ Later w w6 := ⟨by rw [← stsC_next, HLA.out.1, HLA.out.2]; exact hown', Below.grown (HL5.out.alloc _) hgrow (HL5.out.alloc _).size (fun j hj => (HOW5.out.lt j hj).1)⟩
              clear hown' hgrow
              go_wp2_with fail
              go_roundw
              case rel => exact ⟨k + 1, by omega, by go_num, fun h => by omega, hnext.2, hnext.1⟩
              case measure => simp [RowKit.intOf]; omega
            · have hmin' : min (d.length : Int) 60 = (60 : Int) := by omega
              have hcap2 : (60 : Int) ≤ (c' : Int) := by omega
              have hdt : (d.take 60).length = 60 := by rw [List.length_take]; omega
              have HOF0 := Of_is b' o' (d.take 60) c' (by omega) wk hb' (fun i hi => by rw [getD_take d 60 i (by omega)]; exact hcell i (by omega))
              rw [hdt] at HOF0
              have HOF := Lib.hid HOF0
              clear hcell hdt HOF0
              go_wp2_with fail
              refine (HOF.out).mono ?_
              rintro e w5 ⟨rfl, hb5⟩
              rw [HH.out.1, HH.out.2]
              have hL5 := HLR.out.trans hb5
              have HOW5 := Lib.hid (ownsRow_later HOWN.out hb5)
              have HL5 := Lib.hid hL5
              have hs5 : w.heap.size ≤ w5.heap.size := hL5.size
              clear hb5 hL5
              go_wp2_with (first | (refine wpList_append_own _ rfl (.tmp 21) (.tmp 29) 58 rfl w.heap.size 29 i0 _ 11 96 Tryd.underlying58 hi0 hiz his hib rfl (by decide) _ _ _ rfl (HOW5.out.alloc _) ⟨w5.heap.size, 0, none⟩ 1 1 [.int .u64 0, .int .u64 0, .int .u64 0, .int .u64 0, .int .u64 0, .int .u64 0, .int .u64 0, .int .u64 0, .int .u64 0, .int .u64 0, .complex .f64 (LA) (LB)] rfl rfl ?c1 ?c2 ?c3 ?c4 ?c5 ?_))
              case c1 => exact fun j u hu => by rw [addr_add, World.cell?_alloc_new]; simpa using hu
              case c2 => exact fun u hu => by revert u; simp [Value.oneCell']
              case c3 => (unfold maxLen; omega)
              case c4 => omega
              case c5 => (simp; omega)
              intro v' w6 hown' hgrow _
              have hnext : w6.ownsRow w.heap.size 29 11 v' (k + 1) (stsC (lA ls) (lB ls) (k + 1)) ∧ Later w w6 := ⟨by rw [← stsC_next, HLA.out.1, HLA.out.2]; exact hown', Below.grown (HL5.out.alloc _) hgrow (HL5.out.alloc _).size (fun j hj => (HOW5.out.lt j hj).1)⟩
              clear hown' hgrow
              go_wp2_with fail
              go_roundw
              case rel => exact ⟨k + 1, by omega, by go_num, fun h => by omega, hnext.2, hnext.1⟩
              case measure => simp [RowKit.intOf]; omega
        · obtain rfl : k = n := by omega
          have hd1 : decide ((k : Int) < (k : Int)) = false := by simp
          have HP := Lib.hid (And.intro hnil (And.intro hlr hown))
          clear hnil hlr hown
          go_wp2_with fail
          go_meet
          exact ⟨rfl, lA ls, lB ls, lA_le ls, lB_le ls, HP.out⟩
  case rest =>
    obtain ⟨rfl, A, B, hA, hB, hnil, hL, hown⟩ := hcut
    rename World => w2
    have HAB := Lib.hid (And.intro hA hB)
    have HOWN := Lib.hid hown
    have HL := Lib.hid hL
    clear hA hB hown hL HSL HL1
    by_cases hn0 : n = 0
    · subst hn0
      obtain rfl := hnil rfl
      clear hnil
      go_wp2_with fail
      refine (Rank_nil _).mono ?_
      rintro e w3 ⟨rfl, hb3⟩
      have HL3 := Lib.hid (HL.out.trans hb3)
      obtain ⟨M, hM1, hM2⟩ := make_seen 0 (by omega) (fun _ => 0)
      have hM3 : ∀ U : World, (Instr.makeSlice 62 (.int .i64 0) (.int .i64 0)).run Tryd.prog U = .ok (.slice (some ⟨U.heap.size, 0, none⟩) 0 0) (U.alloc (.cells M 4)) := hM1
      clear hM1 hM2 hb3 HL
      go_wp2_with fail
      refine wp_loop_rounds 1 ?_
      rw [rounds_succ]
      go_wp2_with fail
      obtain ⟨n, hn'⟩ : ∃ n : Nat, 0 = n := ⟨_, rfl⟩
      have hn20 : n ≤ 20 := by omega
      have hn := Lib.hid hn'
      clear hn'
      have hsz6 : w3.heap.size ≤ (w3.alloc (.cells M 4)).heap.size := by simp
      refine (Clone_nil _).mono ?_
      rintro e w6 ⟨rfl, hl6⟩
      have hLk : Later w (w3.alloc (.cells M 4)) := HL3.out.alloc _
      obtain ⟨vc, hvc⟩ : ∃ v : Value, .slice none 0 0 = v := ⟨_, rfl⟩
      obtain ⟨bs, hbse⟩ : ∃ b, w.heap.size = b := ⟨_, rfl⟩
      have hwb : w.heap.size ≤ bs := by omega
      have hbs6 : bs ≤ w6.heap.size := by have := hLk.size; have := hl6.size; omega
      have hown6 : w6.ownsRow bs 29 11 vc n (stsC A B n) := by rw [← hvc, ← hn.out]; exact World.ownsRow_nil _ _ _ _
      rw [hvc]
      clear hvc hbse hsz6 hn
      have HOW6 := Lib.hid hown6
      have HL6 := Lib.hid (show Later w w6 from hLk.trans hl6)
      have hbs : bs ≤ w6.heap.size := hbs6
      have HBS := Lib.hid (show ∀ k, (vc : Value).ownBlock = some k → w.heap.size ≤ k from fun k hk => Nat.le_trans hwb (HOW6.out.lt k hk).1)
      clear hown6 hl6 hLk hbs6
      go_wp2_with (first | (refine wpList_append_own _ rfl (.tmp 105) (.tmp 107) 58 rfl bs 29 i0 _ 11 96 Tryd.underlying58 hi0 hiz his hib rfl (by decide) _ _ _ rfl (HOW6.out.alloc _) ⟨w6.heap.size, 0, none⟩ 1 1 [.int .u64 0, .int .u64 0, .int .u64 0, .int .u64 0, .int .u64 0, .int .u64 0, .int .u64 0, .int .u64 0, .int .u64 0, .int .u64 0, .complex .f64 (4613937818241073152) (0)] rfl rfl ?c1 ?c2 ?c3 ?c4 ?c5 ?_))
      case c1 => exact fun j u hu => by rw [addr_add, World.cell?_alloc_new]; simpa using hu
      case c2 => exact fun u hu => by revert u; simp [Value.oneCell']
      case c3 => (unfold maxLen; omega)
      case c4 => omega
      case c5 => (simp; omega)
      intro v' w7 hown' hgrow _
      have hown7 : w7.ownsRow bs 29 11 v' (n + 1) (stsC A B n ++ stC 4613937818241073152 0) := hown'
      have hL7 : Later w w7 := Below.grown (HL6.out.alloc _) hgrow (HL6.out.alloc _).size (fun j hj => HBS.out j hj)
      obtain ⟨G', cap', hv', _, hG', hcap', hcells'⟩ := own_cells hown7 (by omega)
      subst hv'
      have HSB := Lib.hid (And.intro (sts_of hG' hcells') (bad_of hcells'))
      have HL7 := Lib.hid hL7
      clear hown' hgrow hown7 hL7 hcells'
      go_wp2_with fail
      refine (Rank_bad n hn20 A B HAB.out.1 HAB.out.2 G' cap' _ HSB.out.1 hcap' HSB.out.2).mono ?_
      rintro e w8 ⟨rfl, hb8⟩
      have HL8 := Lib.hid (HL7.out.trans hb8)
      clear hb8
      go_wp2_with fail
      refine (awake_is _ (HE.out.later HL8.out)).mono ?_
      rintro e w9 ⟨rfl, hb9⟩
      have HL9 := Lib.hid (HL8.out.trans hb9)
      clear hb9
      go_wp2_with fail
      go_ret
      exact ⟨rfl, HL9.out⟩
    · obtain ⟨G, cap, hv, hG1, hG2, hcap, hcells⟩ := own_cells HOWN.out hn0
      subst hv
      have hSt : Sts w2 G n A B := sts_of (r := []) hG2 (by simpa using hcells)
      obtain ⟨m, hmn⟩ : ∃ m, m + 1 = n := ⟨n - 1, by omega⟩
      have HC2 := Lib.hid hcells
      have HST := Lib.hid hSt
      clear hcells hSt hnil HOWN
      go_wp2_with fail
      refine (Rank_is m n hmn hn20 A B HAB.out.1 HAB.out.2 G cap _ HST.out hcap).mono ?_
      rintro e w3 ⟨⟨O, ocap, rfl, hO1, hO2, hO3, hO⟩, hb3⟩
      have hO' : ∀ k, k < n → w3.cell? ⟨O, k, none⟩ = some (.int .i64 ((rkF m A B k : Nat) : Int)) := hO
      have hlaw := rkF_law m n hmn A B
      obtain ⟨o, ho⟩ : ∃ o, rkF m A B = o := ⟨_, rfl⟩
      rw [ho] at hO' hlaw
      have HO := Lib.hid hO'
      have HLAW := Lib.hid hlaw
      have HST3 := Lib.hid (HST.out.later hb3)
      have HC3 := Lib.hid (show ∀ j u, (stsC A B n)[j]? = some u → w3.cell? ⟨G, j, none⟩ = some u from fun j u hu => cell_at hb3 (HC2.out j u hu) hG2)
      have HL3 := Lib.hid (HL.out.trans hb3)
      have hG3 : G < w3.heap.size := Nat.lt_of_lt_of_le hG2 hb3.size
      clear hO hO' hlaw ho hb3 HL HC2 HST
      obtain ⟨M, hM1, hM2⟩ := make_seen n hn20 o
      have HM2 := Lib.hid hM2
      clear hM2
      go_wp2_with fail
      have hse0 := HM2.out w3
      have hsn0 : w3.heap.size < (w3.alloc (.cells M 4)).heap.size := by simp
      obtain ⟨Sn, hSn⟩ : ∃ Sn, w3.heap.size = Sn := ⟨_, rfl⟩
      have hSn3 : w3.heap.size ≤ Sn := by omega
      try rw [hSn]
      rw [hSn] at hse0 hsn0
      clear hSn hM1
      go_loopw [44] (fun s44 wr => ∃ k : Nat, k ≤ n ∧ s44 = .int .i64 k ∧ SeenI w3 wr Sn n o k ∧ Sn < wr.heap.size) (fun s44 _ => n - (RowKit.intOf s44).toNat)
      case atStart => exact ⟨0, by omega, rfl, hse0, hsn0⟩
      case round =>
        obtain ⟨k, hk, rfl, hse, hSnk⟩ := hrel
        rename World => wk
        clear hse0 hsn0
        by_cases hlt : k < n
        · have hkl : (k : Int) < (n : Int) := by omega
          have hk0 : (0 : Int) ≤ (k : Int) := by omega
          have hd1 : decide ((k : Int) < (n : Int)) = true := by simp; omega
          have hd2 : decide (k < n) = true := by simp; omega
          have hinj := HLAW.out.2.1
          have hpn := HLAW.out.1 k
          have c2 : wk.cell? ⟨Sn, o k, none⟩ = some (.bool false) := by rw [(hse.2.2 _ hpn).1, seenB_new o n k hlt hinj]
          have f2 : wk.frozen? ⟨Sn, o k, none⟩ = false := (hse.2.2 _ hpn).2
          have c1 : wk.cell? ⟨O, k, none⟩ = some (.int .i64 ((o k : Nat) : Int)) := cell_at hse.1 (HO.out k hlt) hO2
          have hnx := hse.next hpn
          have hnx2 : Sn < (wk.setCell ⟨Sn, o k, none⟩ (.bool true)).heap.size := by rw [set_size]; exact hSnk
          obtain ⟨p, hp⟩ : ∃ p, o k = p := ⟨_, rfl⟩
          rw [hp] at hpn c2 f2 c1 hnx hnx2
          have hp0 : (0 : Int) ≤ (p : Int) := by omega
          have hpn' : (p : Int) < (n : Int) := by omega
          have hd3 : decide ((p : Int) < 0) = false := by simp
          have hd4 : decide ((n : Int) ≤ (p : Int)) = false := by simp; omega
          have hd5 : decide (n ≤ p) = false := by simp; omega
          have hOS : O ≠ Sn := by omega
          have hGS : G ≠ Sn := by omega
          have HNX := Lib.hid (And.intro hnx hnx2)
          have HSE := Lib.hid hse
          have HP := Lib.hid hp
          clear hnx hnx2 hse hp hinj
          by_cases hk00 : k = 0
          · have hz1 : ((k : Int) == 0) = true := by simp; omega
            have hz2 : decide ((k : Int) = 0) = true := by simp; omega
            have hz3 : decide (k = 0) = true := by simp; omega
            have HK := Lib.hid hk00
            clear hk00
            go_wp2_with fail
            go_roundw
            case rel => exact ⟨k + 1, by omega, by go_num, HNX.out.1, HNX.out.2⟩
            case measure => simp [RowKit.intOf]; omega
          · have hz1 : ((k : Int) == 0) = false := by simp; omega
            have hz2 : decide ((k : Int) = 0) = false := by simp; omega
            obtain ⟨j, hj⟩ : ∃ j, j + 1 = k := ⟨k - 1, by omega⟩
            have hw : IntKind.i64.wrap ((k : Int) - 1) = (j : Int) := by rw [IntKind.wrap_i64]; omega
            have hj0 : (0 : Int) ≤ (j : Int) := by omega
            have hjn : (j : Int) < (n : Int) := by omega
            have hqn := HLAW.out.1 j
            have h3 := HLAW.out.2.2 j (by omega)
            have c3w : wk.cell? ⟨O, j, none⟩ = some (.int .i64 ((o j : Nat) : Int)) := cell_at HSE.out.1 (HO.out j (by omega)) hO2
            rw [hj, HP.out] at h3
            obtain ⟨q, hq⟩ : ∃ q, o j = q := ⟨_, rfl⟩
            rw [hq] at hqn h3 c3w
            have c3 : (wk.setCell ⟨Sn, p, none⟩ (.bool true)).cell? ⟨O, j, none⟩ = some (.int .i64 (q : Int)) := by rw [set_other _ _ _ _ _ _ hOS]; exact c3w
            have hq0 : (0 : Int) ≤ (q : Int) := by omega
            have hqn' : (q : Int) < (n : Int) := by omega
            have HST4 := Lib.hid (HST3.out.later HSE.out.1)
            have H3 := Lib.hid h3
            clear h3 hj
            go_wp2_with fail
            obtain ⟨U, hU⟩ : ∃ U, wk.setCell ⟨Sn, p, none⟩ (.bool true) = U := ⟨_, rfl⟩
            have cq := cell_regrown (show U.cell? ⟨G, q * 11 + 10, none⟩ = some (.complex .f64 (A q) (B q)) by rw [← hU, set_other _ _ _ _ _ _ hGS]; exact (HST4.out.2 q hqn).2)
            have cp := cell_regrown (show U.cell? ⟨G, p * 11 + 10, none⟩ = some (.complex .f64 (A p) (B p)) by rw [← hU, set_other _ _ _ _ _ _ hGS]; exact (HST4.out.2 p hpn).2)
            rw [hU] at HNX
            try rw [hU]
            clear hU c1 c2 f2 c3w c3
            have c21 := fun d os => quiet_later ((Less_is (A q) (B q) (A p) (B p) (HAB.out.1 q) (HAB.out.2 q) (HAB.out.1 p) (HAB.out.2 p) (grow (redrawn U d) os)).mono (fun e w' h => ⟨h.1, by rw [← h.2]; exact Later.refl _⟩))
            have c22 := fun d os => quiet_later ((Less_is (A p) (B p) (A q) (B q) (HAB.out.1 p) (HAB.out.2 p) (HAB.out.1 q) (HAB.out.2 q) (grow (redrawn U d) os)).mono (fun e w' h => ⟨h.1, by rw [← h.2]; exact Later.refl _⟩))
            rw [H3.out.1] at c21
            rcases H3.out.2 with h4 | h4
            · rw [h4] at c22
              generalize A q = aq at *
              generalize B q = bq at *
              generalize A p = ap at *
              generalize B p = bp at *
              clear h4
              refine wp_region_quiet_below mixed (by kernel_rfl) ?_
              repeat ((with_reducible refine wpQuiet_step (fun K hK => ?_)); go_simp; first | ((with_reducible refine hK _ ?_); clear hK K) | ((with_reducible refine iteNeg ?_ ?_); (focus (intro h; cases h)); (with_reducible refine hK _ ?_); clear hK K) | (apply Exists.intro; refine ⟨fun _ => ?_, hK _ ?_⟩; (first | (with_reducible exact c21 _ _) | (with_reducible exact c22 _ _)); clear hK K))
              with_reducible refine wpQuiet_nil ?_
              intro w5 hw5
              have hl5 : Later U w5 := by obtain ⟨pp, rfl⟩ := hw5; exact below_regrown U pp.d pp.os
              have HN5 := Lib.hid (show SeenI w3 w5 Sn n o (k + 1) ∧ Sn < w5.heap.size from ⟨HNX.out.1.later hl5 HNX.out.2, Nat.lt_of_lt_of_le HNX.out.2 hl5.size⟩)
              clear hw5 hl5 c21 c22 cq cp
              go_wp2_with fail
              go_roundw
              case rel => exact ⟨k + 1, by omega, by go_num, HN5.out.1, HN5.out.2⟩
              case measure => simp [RowKit.intOf]; omega
            · have hd6 : decide ((p : Int) < (q : Int)) = false := by simp; omega
              have hd7 : decide (p < q) = false := by simp; omega
              clear h4
              cases hl : lessL (A p) (B p) (A q) (B q)
              · rw [hl] at c22
                clear hl
                refine wp_region_quiet_below mixed (by kernel_rfl) ?_
                repeat ((with_reducible refine wpQuiet_step (fun K hK => ?_)); go_simp; first | ((with_reducible refine hK _ ?_); clear hK K) | ((with_reducible refine iteNeg ?_ ?_); (focus (intro h; cases h)); (with_reducible refine hK _ ?_); clear hK K) | (apply Exists.intro; refine ⟨fun _ => ?_, hK _ ?_⟩; (first | (with_reducible exact c21 _ _) | (with_reducible exact c22 _ _)); clear hK K))
                with_reducible refine wpQuiet_nil ?_
                intro w5 hw5
                have hl5 : Later U w5 := by obtain ⟨pp, rfl⟩ := hw5; exact below_regrown U pp.d pp.os
                have HN5 := Lib.hid (show SeenI w3 w5 Sn n o (k + 1) ∧ Sn < w5.heap.size from ⟨HNX.out.1.later hl5 HNX.out.2, Nat.lt_of_lt_of_le HNX.out.2 hl5.size⟩)
                clear hw5 hl5 c21 c22 cq cp
                go_wp2_with fail
                go_roundw
                case rel => exact ⟨k + 1, by omega, by go_num, HN5.out.1, HN5.out.2⟩
                case measure => simp [RowKit.intOf]; omega
              · rw [hl] at c22
                clear hl
                refine wp_region_quiet_below mixed (by kernel_rfl) ?_
                repeat ((with_reducible refine wpQuiet_step (fun K hK => ?_)); go_simp; first | ((with_reducible refine hK _ ?_); clear hK K) | ((with_reducible refine iteNeg ?_ ?_); (focus (intro h; cases h)); (with_reducible refine hK _ ?_); clear hK K) | (apply Exists.intro; refine ⟨fun _ => ?_, hK _ ?_⟩; (first | (with_reducible exact c21 _ _) | (with_reducible exact c22 _ _)); clear hK K))
                with_reducible refine wpQuiet_nil ?_
                intro w5 hw5
                have hl5 : Later U w5 := by obtain ⟨pp, rfl⟩ := hw5; exact below_regrown U pp.d pp.os
                have HN5 := Lib.hid (show SeenI w3 w5 Sn n o (k + 1) ∧ Sn < w5.heap.size from ⟨HNX.out.1.later hl5 HNX.out.2, Nat.lt_of_lt_of_le HNX.out.2 hl5.size⟩)
                clear hw5 hl5 c21 c22 cq cp
                go_wp2_with fail
                go_roundw
                case rel => exact ⟨k + 1, by omega, by go_num, HN5.out.1, HN5.out.2⟩
                case measure => simp [RowKit.intOf]; omega
        · obtain rfl : n = k := by omega
          have hd1 : decide ((n : Int) < (n : Int)) = false := by simp
          have HSE := Lib.hid hse
          clear hse
          go_wp2_with fail
          refine (Clone_is G n cap (stsC A B n) (stsC_len A B n) (stsC_one A B n) (by omega) _ (fun j u hu => cell_at HSE.out.1 (HC3.out j u hu) hG3)).mono ?_
          rintro e w6 ⟨vc, rfl, hown6, hl6⟩
          have hLk : Later w wk := HL3.out.trans HSE.out.1
          obtain ⟨bs, hbse⟩ : ∃ b, wk.heap.size = b := ⟨_, rfl⟩
          have hwb : w.heap.size ≤ bs := by rw [← hbse]; exact hLk.size
          have hbs6 : bs ≤ w6.heap.size := by rw [← hbse]; exact hl6.size
          rw [hbse] at hown6
          clear hbse
          have HOW6 := Lib.hid hown6
          have HL6 := Lib.hid (show Later w w6 from hLk.trans hl6)
          have hbs : bs ≤ w6.heap.size := hbs6
          have HBS := Lib.hid (show ∀ k, (vc : Value).ownBlock = some k → w.heap.size ≤ k from fun k hk => Nat.le_trans hwb (HOW6.out.lt k hk).1)
          clear hown6 hl6 hLk hbs6
          go_wp2_with (first | (refine wpList_append_own _ rfl (.tmp 105) (.tmp 107) 58 rfl bs 29 i0 _ 11 96 Tryd.underlying58 hi0 hiz his hib rfl (by decide) _ _ _ rfl (HOW6.out.alloc _) ⟨w6.heap.size, 0, none⟩ 1 1 [.int .u64 0, .int .u64 0, .int .u64 0, .int .u64 0, .int .u64 0, .int .u64 0, .int .u64 0, .int .u64 0, .int .u64 0, .int .u64 0, .complex .f64 (4613937818241073152) (0)] rfl rfl ?c1 ?c2 ?c3 ?c4 ?c5 ?_))
          case c1 => exact fun j u hu => by rw [addr_add, World.cell?_alloc_new]; simpa using hu
          case c2 => exact fun u hu => by revert u; simp [Value.oneCell']
          case c3 => (unfold maxLen; omega)
          case c4 => omega
          case c5 => (simp; omega)
          intro v' w7 hown' hgrow _
          have hown7 : w7.ownsRow bs 29 11 v' (n + 1) (stsC A B n ++ stC 4613937818241073152 0) := hown'
          have hL7 : Later w w7 := Below.grown (HL6.out.alloc _) hgrow (HL6.out.alloc _).size (fun j hj => HBS.out j hj)
          obtain ⟨G', cap', hv', _, hG', hcap', hcells'⟩ := own_cells hown7 (by omega)
          subst hv'
          have HSB := Lib.hid (And.intro (sts_of hG' hcells') (bad_of hcells'))
          have HL7 := Lib.hid hL7
          clear hown' hgrow hown7 hL7 hcells'
          go_wp2_with fail
          refine (Rank_bad n hn20 A B HAB.out.1 HAB.out.2 G' cap' _ HSB.out.1 hcap' HSB.out.2).mono ?_
          rintro e w8 ⟨rfl, hb8⟩
          have HL8 := Lib.hid (HL7.out.trans hb8)
          clear hb8
          go_wp2_with fail
          refine (awake_is _ (HE.out.later HL8.out)).mono ?_
          rintro e w9 ⟨rfl, hb9⟩
          have HL9 := Lib.hid (HL8.out.trans hb9)
          clear hb9
          go_wp2_with fail
          go_ret
          exact ⟨rfl, HL9.out⟩
end Go.Proofs.YthohoendjipleaaDoor
