/-
  The reference's numbers as lists of digits: digits, sum, less, walked. Conditions: numbers of at most 30 digits.
-/
import Derived.Test.YthohoendjipleaaGreatDoorRw
import Derived.Test.YthohoendjipleaaGreatDoorDl
namespace Go.Proofs.YthohoendjipleaaGreatDoor
open Go.RowKit Go.Lib
set_option linter.unusedSimpArgs false
set_option linter.unusedVariables false

theorem info3 : (Tryz.prog.info? 3).map (fun i => (i.zero, i.size, i.bytes)) = some (some (.int .i64 0), 1, 8) := by kernel_rfl
def digC (l : List Nat) : List Value := l.map fun (d : Nat) => Value.int .i64 (d : Int)
/-- a slice that holds a number's digits -/
def Dig (w : World) (v : Value) (n : Nat) : Prop :=
  ∃ p cap, v = .slice p (dg n).length cap ∧ (dg n).length ≤ cap ∧ ∀ (j d : Nat), (dg n)[j]? = some d → ∃ g, p = some ⟨g, 0, none⟩ ∧ g < w.heap.size ∧ w.cell? ⟨g, j, none⟩ = some (.int .i64 (d : Int))
theorem Dig.later {w w' : World} {v : Value} {n : Nat} (h : Dig w v n) (hl : Later w w') : Dig w' v n := by
  obtain ⟨p, cap, h1, h2, h3⟩ := h
  refine ⟨p, cap, h1, h2, fun j d hd => ?_⟩
  obtain ⟨g, e1, e2, e3⟩ := h3 j d hd
  exact ⟨g, e1, Nat.lt_of_lt_of_le e2 hl.size, cell_at hl e3 e2⟩
theorem Dig.of_owns {w : World} {base k n : Nat} {v : Value} (h : w.ownsRow base 3 1 v k (digC (dg n))) (hk : k = (dg n).length) : Dig w v n := by
  subst hk
  rcases h.2 with ⟨rfl, h0⟩ | ⟨g, cap, cur, rfl, e2, e3, e4, e5, e6, e7⟩
  · have hn : dg n = [] := List.eq_nil_of_length_eq_zero h0
    exact ⟨none, 0, by rw [hn]; rfl, by rw [hn]; exact Nat.le_refl _, fun j d hd => by rw [hn] at hd; simp at hd⟩
  · refine ⟨some ⟨g, 0, none⟩, cap, rfl, e4, fun j d hd => ⟨g, rfl, (Array.getElem?_eq_some_iff.1 e3).1, ?_⟩⟩
    exact ownsRow_cell h (by simp [digC, hd])
theorem digC_length (l : List Nat) : (digC l).length = l.length := by simp [digC]
/-- out are the first digits of n, what is left is m -/
def DI (w wr : World) (n : Nat) (v : Value) (m k : Nat) : Prop :=
  ∃ out : List Nat, dg n = out ++ dg m ∧ out.length = k ∧ wr.ownsRow w.heap.size 3 1 v k (digC out) ∧ Later w wr

set_option maxRecDepth 100000 in
set_option maxHeartbeats 4000000 in
theorem digits25_is (n : Nat) (hn : n < 18446744073709551616) (w : World) : Calls Tryz.prog 26 #[.int .u64 (n : Int)] w fun e w' => ∃ v, e = .returned v ∧ Dig w' v n ∧ Later w w' := by
  obtain ⟨i0, hi0, hiz, his, hib⟩ := info_parts info3
  have hlen := dg_len_le n 20 (by omega)
  have HLEN := Lib.hid hlen
  have HI0 : DI w w n (.slice none 0 0) n 0 := ⟨[], rfl, rfl, World.ownsRow_nil _ _ _ _, Later.refl _⟩
  have HN := Lib.hid hn
  clear hlen hn
  go_enter Tryz.func26, Tryz.ntmps26
  go_wp2_with fail
  go_loopw [0, 3] (fun s0 s3 wr => ∃ m k : Nat, s0 = .int .u64 (m : Int) ∧ m < 18446744073709551616 ∧ DI w wr n s3 m k) (fun s0 _ _ => (RowKit.intOf s0).toNat)
  case atStart => exact ⟨n, 0, rfl, HN.out, HI0⟩
  case round =>
    obtain ⟨m, k, rfl, hm, hI⟩ := hrel
    rename World => wk
    clear HI0
    by_cases h0 : m = 0
    · subst h0
      obtain ⟨out, e1, e2, e3, e4⟩ := hI
      rw [dg_zero, List.append_nil] at e1
      subst e1
      have HD := Lib.hid (And.intro (Dig.of_owns e3 e2.symm) e4)
      clear e3 e4 e2 hm
      go_wp2_with fail
      go_ret
      exact ⟨_, rfl, HD.out⟩
    · obtain ⟨out, e1, e2, e3, e4⟩ := hI
      have hk : k < 21 := by
        have := HLEN.out
        rw [e1, List.length_append, e2] at this
        omega
      have hdm := dg_pos h0
      have hpos : decide (0 < (m : Int)) = true := by simp; omega
      have HE := Lib.hid (And.intro e1 (And.intro e2 hdm))
      have HOWN := Lib.hid e3
      have HL := Lib.hid e4
      have hs5 : w.heap.size ≤ wk.heap.size := e4.size
      obtain ⟨d, hd⟩ : ∃ d, m % 10 = d := ⟨_, rfl⟩
      obtain ⟨q, hq⟩ : ∃ q, m / 10 = q := ⟨_, rfl⟩
      have hmm : (m : Int) % 10 = (d : Int) := by omega
      have hmq : (m : Int) / 10 = (q : Int) := by omega
      have hlt : q < m := by omega
      have hd10 : d < 10 := by omega
      have HM := Lib.hid (And.intro hlt (show q < 18446744073709551616 by omega))
      have HDQ := Lib.hid (And.intro hd hq)
      clear e1 e2 e3 e4 hdm hd hq hlt
      go_wp2_with (first | (refine wpList_append_own _ rfl (.tmp 6) (.tmp 10) 68 rfl w.heap.size 3 i0 _ 1 8 Tryz.underlying68 hi0 hiz his hib rfl (by decide) _ _ _ rfl (HOWN.out.alloc _) ⟨wk.heap.size, 0, none⟩ 1 1 [.int .i64 (d : Int)] rfl rfl ?c1 ?c2 ?c3 ?c4 ?c5 ?_))
      case c1 => exact fun j u hu => by rw [addr_add, World.cell?_alloc_new]; simpa using hu
      case c2 => exact fun u hu => by revert u; simp [Value.oneCell']
      case c3 => (unfold maxLen; omega)
      case c4 => omega
      case c5 => (simp; omega)
      intro v' w6 hown' hgrow _
      have hnext : DI w w6 n v' q (k + 1) := by
        obtain ⟨e1, e2, hdm⟩ := HE.out
        rw [HDQ.out.1, HDQ.out.2] at hdm
        refine ⟨out ++ [d], ?_, ?_, ?_, Below.grown (HL.out.alloc _) hgrow (HL.out.alloc _).size (fun j hj => (HOWN.out.lt j hj).1)⟩
        · rw [e1, hdm, List.append_assoc]; rfl
        · rw [List.length_append, e2]; rfl
        · rw [digC, List.map_append]; exact hown'
      have HNEXT := Lib.hid hnext
      clear hown' hgrow hnext
      go_wp2_with fail
      go_roundw
      case rel => exact ⟨q, k + 1, rfl, HM.out.2, HNEXT.out⟩
      case measure => (have := HM.out.1; simp [RowKit.intOf]; omega)

/-- the digits of the sum so far; what is left -/
def SI (w wr : World) (A B : Nat) (v : Value) (c i : Nat) : Prop := DI w wr (A + B) v (A / 10 ^ i + B / 10 ^ i + c) i
theorem SI.next_digits {A B c i : Nat} (h : A / 10 ^ i + B / 10 ^ i + c ≠ 0) :
    dg (A / 10 ^ i + B / 10 ^ i + c) = (A / 10 ^ i % 10 + B / 10 ^ i % 10 + c) % 10 :: dg (A / 10 ^ (i + 1) + B / 10 ^ (i + 1) + (A / 10 ^ i % 10 + B / 10 ^ i % 10 + c) / 10) := by
  rw [dg_pos h, div_pow_succ, div_pow_succ]
  congr 1
  · omega
  · congr 1; omega
set_option maxRecDepth 100000 in
set_option maxHeartbeats 16000000 in
theorem sum25_is (A B : Nat) (va vb : Value) (w : World) (hA : Dig w va A) (hB : Dig w vb B) (hb : A + B < 10 ^ 30) : Calls Tryz.prog 28 #[va, vb] w fun e w' => ∃ v, e = .returned v ∧ Dig w' v (A + B) ∧ Later w w' := by
  obtain ⟨i0, hi0, hiz, his, hib⟩ := info_parts info3
  have hlen := dg_len_le (A + B) 30 hb
  have hlA := dg_len_le A 30 (by omega)
  have hlB := dg_len_le B 30 (by omega)
  have HLEN := Lib.hid hlen
  have HI0 : SI w w A B (.slice none 0 0) 0 0 := ⟨[], by simp, rfl, World.ownsRow_nil _ _ _ _, Later.refl _⟩
  obtain ⟨pa, ca, rfl, hca, hcA⟩ := hA
  obtain ⟨pb, cb, rfl, hcb, hcB⟩ := hB
  obtain ⟨la, hla⟩ : ∃ la, (dg A).length = la := ⟨_, rfl⟩
  obtain ⟨lb, hlb⟩ : ∃ lb, (dg B).length = lb := ⟨_, rfl⟩
  have hia : ∀ i, i < la ↔ A / 10 ^ i ≠ 0 := fun i => by rw [← hla]; exact dg_in
  have hib' : ∀ i, i < lb ↔ B / 10 ^ i ≠ 0 := fun i => by rw [← hlb]; exact dg_in
  have hga : ∀ i, i < la → ∃ g, pa = some ⟨g, 0, none⟩ ∧ g < w.heap.size ∧ w.cell? ⟨g, i, none⟩ = some (.int .i64 ((A / 10 ^ i % 10 : Nat) : Int)) := fun i hi => hcA i _ (dg_get (by omega))
  have hgb : ∀ i, i < lb → ∃ g, pb = some ⟨g, 0, none⟩ ∧ g < w.heap.size ∧ w.cell? ⟨g, i, none⟩ = some (.int .i64 ((B / 10 ^ i % 10 : Nat) : Int)) := fun i hi => hcB i _ (dg_get (by omega))
  rw [hla] at hca hlA ⊢
  rw [hlb] at hcb hlB ⊢
  have HG := Lib.hid (And.intro (And.intro hia hib') (And.intro hga hgb))
  clear hcA hcB hla hlb hia hib' hga hgb hlen hb
  go_enter Tryz.func28, Tryz.ntmps28
  go_wp2_with fail
  go_loopw [5, 6, 7] (fun s5 s6 s7 wr => ∃ i c : Nat, s7 = .int .i64 (i : Int) ∧ s6 = .int .i64 (c : Int) ∧ i ≤ 31 ∧ c ≤ 1 ∧ SI w wr A B s5 c i) (fun _ s6 s7 _ => 40 - (RowKit.intOf s7).toNat)
  case atStart => exact ⟨0, 0, rfl, rfl, by omega, by omega, HI0⟩
  case round =>
    obtain ⟨i, c, rfl, rfl, hi, hc, hI⟩ := hrel
    rename World => wk
    clear HI0
    obtain ⟨α, hα⟩ : ∃ α, A / 10 ^ i = α := ⟨_, rfl⟩
    obtain ⟨β, hβ⟩ : ∃ β, B / 10 ^ i = β := ⟨_, rfl⟩
    by_cases h0 : α + β + c = 0
    · obtain ⟨out, e1, e2, e3, e4⟩ := hI
      rw [hα, hβ, h0, dg_zero, List.append_nil] at e1
      subst e1
      have HD := Lib.hid (And.intro (Dig.of_owns e3 e2.symm) e4)
      have ha : ¬ i < la := fun h => by have := (HG.out.1.1 i).1 h; omega
      have hb : ¬ i < lb := fun h => by have := (HG.out.1.2 i).1 h; omega
      have d1 : decide ((i : Int) < (la : Int)) = false := by simp; omega
      have d2 : decide ((i : Int) < (lb : Int)) = false := by simp; omega
      obtain rfl : c = 0 := by omega
      clear e2 e3 e4 h0 hα hβ
      go_wp2_with fail
      go_ret
      exact ⟨_, rfl, HD.out⟩
    · have hnd := SI.next_digits (A := A) (B := B) (c := c) (i := i) (by rw [hα, hβ]; exact h0)
      rw [hα, hβ] at hnd
      obtain ⟨out, e1, e2, e3, e4⟩ := hI
      rw [hα, hβ] at e1
      have hik : i < 31 := by
        have := HLEN.out
        rw [e1, List.length_append, e2, hnd, List.length_cons] at this
        omega
      obtain ⟨D, hD⟩ : ∃ D, (α % 10 + β % 10 + c) % 10 = D := ⟨_, rfl⟩
      obtain ⟨C, hC⟩ : ∃ C, (α % 10 + β % 10 + c) / 10 = C := ⟨_, rfl⟩
      have hC1 : C ≤ 1 := by omega
      rw [hD, hC] at hnd
      have HOWN := Lib.hid e3
      have HL := Lib.hid e4
      have hs5 : w.heap.size ≤ wk.heap.size := e4.size
      have HNX := Lib.hid (show ∀ v' w6, w6.ownsRow w.heap.size 3 1 v' (i + 1) (digC out ++ [.int .i64 (D : Int)]) → Later w w6 → SI w w6 A B v' C (i + 1) from fun v' w6 ho hl => by
        refine ⟨out ++ [D], ?_, ?_, ?_, hl⟩
        · rw [e1, hnd, List.append_assoc]; rfl
        · rw [List.length_append, e2]; rfl
        · rw [digC, List.map_append]; exact ho)
      have hcases : (i < la ∧ i < lb) ∨ (i < la ∧ ¬ i < lb ∧ β = 0) ∨ (¬ i < la ∧ α = 0 ∧ i < lb) ∨ (¬ i < la ∧ α = 0 ∧ ¬ i < lb ∧ β = 0) := by
        have h1 := HG.out.1.1 i
        have h2 := HG.out.1.2 i
        rw [hα] at h1
        rw [hβ] at h2
        by_cases ha : i < la <;> by_cases hb : i < lb
        · exact .inl ⟨ha, hb⟩
        · exact .inr (.inl ⟨ha, hb, by omega⟩)
        · exact .inr (.inr (.inl ⟨ha, by omega, hb⟩))
        · exact .inr (.inr (.inr ⟨ha, by omega, hb, by omega⟩))
      have hca' : i < la → ∃ g, pa = some ⟨g, 0, none⟩ ∧ wk.cell? ⟨g, i, none⟩ = some (.int .i64 ((α % 10 : Nat) : Int)) := fun h => by
        obtain ⟨g, g1, g2, g3⟩ := HG.out.2.1 i h
        rw [hα] at g3
        exact ⟨g, g1, cell_at e4 g3 g2⟩
      have hcb' : i < lb → ∃ g, pb = some ⟨g, 0, none⟩ ∧ wk.cell? ⟨g, i, none⟩ = some (.int .i64 ((β % 10 : Nat) : Int)) := fun h => by
        obtain ⟨g, g1, g2, g3⟩ := HG.out.2.2 i h
        rw [hβ] at g3
        exact ⟨g, g1, cell_at e4 g3 g2⟩
      clear e1 e2 e3 e4 hnd HLEN
      have ha10 : α % 10 < 10 := by omega
      have hb10 : β % 10 < 10 := by omega
      rcases hcases with ⟨ha, hb⟩ | ⟨ha, hb, hz⟩ | ⟨ha, hz, hb⟩ | ⟨ha, hz, hb, hz2⟩
      · obtain ⟨ga, rfl, ka⟩ := hca' ha
        obtain ⟨gb, rfl, kb⟩ := hcb' hb
        have d1 : decide ((i : Int) < (la : Int)) = true := by simp; omega
        have d2 : decide ((i : Int) < (lb : Int)) = true := by simp; omega
        obtain ⟨x, hx⟩ : ∃ x, α % 10 = x := ⟨_, rfl⟩
        rw [hx] at ka ha10 hD hC
        have ia1 : (i : Int) < (la : Int) := by omega
        obtain ⟨y, hy⟩ : ∃ y, β % 10 = y := ⟨_, rfl⟩
        rw [hy] at kb hb10 hD hC
        have ib1 : (i : Int) < (lb : Int) := by omega
        have i0' : (0 : Int) ≤ (i : Int) := by omega
        have m1 : ((c : Int) + (x : Int) + (y : Int)) % 10 = (D : Int) := by omega
        have m2 : ((c : Int) + (x : Int) + (y : Int)) / 10 = (C : Int) := by omega
        have HNN := Lib.hid (And.intro hD hC)
        clear hD hC hα hβ h0 hx hca' hy hcb'
        go_wp2_with (first | (refine wpList_append_own _ rfl (.tmp 44) (.tmp 47) 68 rfl w.heap.size 3 i0 _ 1 8 Tryz.underlying68 hi0 hiz his hib rfl (by decide) _ _ _ rfl (HOWN.out.alloc _) ⟨wk.heap.size, 0, none⟩ 1 1 [.int .i64 (D : Int)] rfl rfl ?c1 ?c2 ?c3 ?c4 ?c5 ?_))
        case c1 => exact fun j u hu => by rw [addr_add, World.cell?_alloc_new]; simpa using hu
        case c2 => exact fun u hu => by revert u; simp [Value.oneCell']
        case c3 => (unfold maxLen; omega)
        case c4 => omega
        case c5 => (simp; omega)
        intro v' w6 hown' hgrow _
        have HNEXT := Lib.hid (HNX.out v' w6 hown' (Below.grown (HL.out.alloc _) hgrow (HL.out.alloc _).size (fun j hj => (HOWN.out.lt j hj).1)))
        clear hown' hgrow
        go_wp2_with fail
        go_roundw
        case rel => exact ⟨i + 1, C, by go_num, by first | rfl | go_num, by omega, hC1, HNEXT.out⟩
        case measure => simp [RowKit.intOf]; omega
      · obtain ⟨ga, rfl, ka⟩ := hca' ha
        have d1 : decide ((i : Int) < (la : Int)) = true := by simp; omega
        have d2 : decide ((i : Int) < (lb : Int)) = false := by simp; omega
        obtain ⟨x, hx⟩ : ∃ x, α % 10 = x := ⟨_, rfl⟩
        rw [hx] at ka ha10 hD hC
        have ia1 : (i : Int) < (la : Int) := by omega
        subst hz
        clear hcb'
        have i0' : (0 : Int) ≤ (i : Int) := by omega
        have m1 : ((c : Int) + (x : Int)) % 10 = (D : Int) := by omega
        have m2 : ((c : Int) + (x : Int)) / 10 = (C : Int) := by omega
        have HNN := Lib.hid (And.intro hD hC)
        clear hD hC hα hβ h0 hx hca'
        go_wp2_with (first | (refine wpList_append_own _ rfl (.tmp 44) (.tmp 47) 68 rfl w.heap.size 3 i0 _ 1 8 Tryz.underlying68 hi0 hiz his hib rfl (by decide) _ _ _ rfl (HOWN.out.alloc _) ⟨wk.heap.size, 0, none⟩ 1 1 [.int .i64 (D : Int)] rfl rfl ?c1 ?c2 ?c3 ?c4 ?c5 ?_))
        case c1 => exact fun j u hu => by rw [addr_add, World.cell?_alloc_new]; simpa using hu
        case c2 => exact fun u hu => by revert u; simp [Value.oneCell']
        case c3 => (unfold maxLen; omega)
        case c4 => omega
        case c5 => (simp; omega)
        intro v' w6 hown' hgrow _
        have HNEXT := Lib.hid (HNX.out v' w6 hown' (Below.grown (HL.out.alloc _) hgrow (HL.out.alloc _).size (fun j hj => (HOWN.out.lt j hj).1)))
        clear hown' hgrow
        go_wp2_with fail
        go_roundw
        case rel => exact ⟨i + 1, C, by go_num, by first | rfl | go_num, by omega, hC1, HNEXT.out⟩
        case measure => simp [RowKit.intOf]; omega
      · obtain ⟨gb, rfl, kb⟩ := hcb' hb
        have d1 : decide ((i : Int) < (la : Int)) = false := by simp; omega
        have d2 : decide ((i : Int) < (lb : Int)) = true := by simp; omega
        subst hz
        clear hca'
        obtain ⟨y, hy⟩ : ∃ y, β % 10 = y := ⟨_, rfl⟩
        rw [hy] at kb hb10 hD hC
        have ib1 : (i : Int) < (lb : Int) := by omega
        have i0' : (0 : Int) ≤ (i : Int) := by omega
        have m1 : ((c : Int) + (y : Int)) % 10 = (D : Int) := by omega
        have m2 : ((c : Int) + (y : Int)) / 10 = (C : Int) := by omega
        have HNN := Lib.hid (And.intro hD hC)
        clear hD hC hα hβ h0 hy hcb'
        go_wp2_with (first | (refine wpList_append_own _ rfl (.tmp 44) (.tmp 47) 68 rfl w.heap.size 3 i0 _ 1 8 Tryz.underlying68 hi0 hiz his hib rfl (by decide) _ _ _ rfl (HOWN.out.alloc _) ⟨wk.heap.size, 0, none⟩ 1 1 [.int .i64 (D : Int)] rfl rfl ?c1 ?c2 ?c3 ?c4 ?c5 ?_))
        case c1 => exact fun j u hu => by rw [addr_add, World.cell?_alloc_new]; simpa using hu
        case c2 => exact fun u hu => by revert u; simp [Value.oneCell']
        case c3 => (unfold maxLen; omega)
        case c4 => omega
        case c5 => (simp; omega)
        intro v' w6 hown' hgrow _
        have HNEXT := Lib.hid (HNX.out v' w6 hown' (Below.grown (HL.out.alloc _) hgrow (HL.out.alloc _).size (fun j hj => (HOWN.out.lt j hj).1)))
        clear hown' hgrow
        go_wp2_with fail
        go_roundw
        case rel => exact ⟨i + 1, C, by go_num, by first | rfl | go_num, by omega, hC1, HNEXT.out⟩
        case measure => simp [RowKit.intOf]; omega
      · have d1 : decide ((i : Int) < (la : Int)) = false := by simp; omega
        have d2 : decide ((i : Int) < (lb : Int)) = false := by simp; omega
        subst hz
        clear hca'
        subst hz2
        clear hcb'
        have i0' : (0 : Int) ≤ (i : Int) := by omega
        obtain rfl : c = 1 := by omega
        obtain rfl : D = 1 := by omega
        obtain rfl : C = 0 := by omega
        have HNN := Lib.hid (And.intro hD hC)
        clear hD hC hα hβ h0
        go_wp2_with (first | (refine wpList_append_own _ rfl (.tmp 44) (.tmp 47) 68 rfl w.heap.size 3 i0 _ 1 8 Tryz.underlying68 hi0 hiz his hib rfl (by decide) _ _ _ rfl (HOWN.out.alloc _) ⟨wk.heap.size, 0, none⟩ 1 1 [.int .i64 1] rfl rfl ?c1 ?c2 ?c3 ?c4 ?c5 ?_))
        case c2 => rfl
        case c3 => (unfold maxLen; omega)
        case c4 => omega
        case c5 => omega
        intro v' w6 hown' hgrow _
        have HNEXT := Lib.hid (HNX.out v' w6 hown' (Below.grown (HL.out.alloc _) hgrow (HL.out.alloc _).size (fun j hj => (HOWN.out.lt j hj).1)))
        clear hown' hgrow
        go_wp2_with fail
        go_roundw
        case rel => exact ⟨i + 1, 0, by go_num, by first | rfl | go_num, by omega, hC1, HNEXT.out⟩
        case measure => simp [RowKit.intOf]; omega
end Go.Proofs.YthohoendjipleaaGreatDoor
