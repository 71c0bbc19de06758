/-
 Texts of this proof, put together (Ur): each part's first words say what it holds. Conditions: as each part says.
-/
import Derived.Test.YtkbedajbbakihaaGreatDoorQk
/-
 The reference's Unword, walked. Conditions: the word has at most 10^9 bytes.
-/
namespace Go.Proofs.YtkbedajbbakihaaGreatDoor
open Go.RowKit Go.Sort Go.Lib
set_option linter.unusedSimpArgs false
set_option linter.unusedVariables false

theorem refWord_is (s : ByteArray) (hs : s.size ≤ 1000000000) (w : World) :
  Calls Tryz.prog 13 #[.string s] w fun e w' => e = .returned (.string ⟨(word s.data.toList).toArray⟩) ∧ Later w w' := by
 by_cases h0 : s.size = 0
 ·have ht : s = ⟨#[]⟩ := by
   apply ByteArray.ext
   exact Array.eq_empty_of_size_eq_zero h0
  subst ht
  clear h0 hs
  go_enter Tryz.func13, Tryz.ntmps13
  go_wp2_with fail
  go_ret
  exact ⟨rfl, Later.refl _⟩
 ·exact refWord_some s hs h0 w
/-! ### plainly -/
theorem rdec_its (c : UInt8) (r : List UInt8) (h : itsf c = true) : rdec (c :: r) = (rdec r).map (c :: ·) := by
 cases r with
 | nil => simp [rdec, h]
 | cons a r =>
  cases r with
  | nil =>
   simp only [rdec, h, if_true]
   by_cases ha : itsf a = true
   ·rw [if_pos ha, if_pos ha]; rfl
   ·rw [if_neg ha, if_neg ha]; rfl
  | cons b r => rw [rdec, if_pos h]
theorem rdec_no (c : UInt8) (r : List UInt8) (h : itsf c = false) (k : c ≠ 37 ∨ r.length < 2) : rdec (c :: r) = none := by
 cases r with
 | nil => simp [rdec, h]
 | cons a r =>
  cases r with
  | nil => simp [rdec, h]
  | cons b r =>
   rcases k with k | k
   ·rw [rdec, if_neg (by rw [h]; simp), if_neg k]
   ·simp at k; omega
theorem rdec_three (a b : UInt8) (r : List UInt8) : rdec (37 :: a :: b :: r) = match hexv a, hexv b with
  | some h, some g => if itsf (UInt8.ofNat (16 * h + g)) then none else (rdec r).map (UInt8.ofNat (16 * h + g) :: ·)
  | _, _ => none := by
 rw [rdec, if_neg (by rw [itsf_37]; simp), if_pos rfl]
 cases hexv a <;> cases hexv b <;> rfl
/-- how the reference's Unword ends -/
def URE (r : Option (List UInt8)) (e : Ending) : Prop :=
 match r with
 | some t => e = .returned (.tuple #[.string ⟨t.toArray⟩, .bool true])
 | none => e = .returned (.tuple #[.string ⟨#[]⟩, .bool false])
/-- what its loop keeps -/
def URI (w : World) (l : List UInt8) (k : Nat) (acc : List UInt8) (v : Value) (wr : World) : Prop :=
 Later w wr ∧ wr.ownsRow w.heap.size 5 1 v acc.length (Lib.byteCells acc) ∧ acc.length ≤ k ∧ rdec l = (rdec (l.drop k)).map (acc ++ ·)
theorem URI.snoc {w : World} {l : List UInt8} {k j : Nat} {acc : List UInt8} {v v' : Value} {wr w' : World} (h : URI w l k acc v wr) (hj : k < j) (c : UInt8) (hd : rdec (l.drop k) = (rdec (l.drop j)).map (c :: ·)) (hl : Later w w') (ho : w'.ownsRow w.heap.size 5 1 v' (acc.length + 1) (Lib.byteCells acc ++ [.int .u8 (c.toNat : Int)])) : URI w l j (acc ++ [c]) v' w' := by
 refine ⟨hl, ?_, by have := h.2.2.1; simp; omega, ?_⟩
 ·rw [List.length_append]
  simpa [Lib.byteCells] using ho
 ·rw [h.2.2.2, hd, Option.map_map]
  congr 1
  funext t
  simp
set_option maxRecDepth 100000 in
set_option maxHeartbeats 4000000 in
theorem refUnword_some (s : ByteArray) (hs : s.size ≤ 1000000000) (h45 : s.data.toList ≠ [45]) (w : World) :
  Calls Tryz.prog 14 #[.string s] w fun e w' => URE (runword s.data.toList) e ∧ Later w w' := by
 have hne : (s.toList == [45]) = false := by rw [ByteArray.toList_eq]; simpa using h45
 obtain ⟨i0, hi, hz0, hz1, hz2⟩ := info_parts infoB
 have HI := Lib.hid (And.intro hi (And.intro hz0 (And.intro hz1 hz2)))
 have hrun : ∀ (h0 : s.data.toList ≠ []), runword s.data.toList = rdec s.data.toList := fun h0 => by unfold runword; rw [if_neg h45, if_neg h0]
 have HRUN := Lib.hid hrun
 have HI0 := Lib.hid (show URI w s.data.toList 0 [] (.slice none 0 0) w from ⟨Later.refl w, by simpa [Lib.byteCells] using World.ownsRow_nil w w.heap.size 5 1, by simp, by simp⟩)
 have HEMP := Lib.hid (show s.data.toList = [] → runword s.data.toList = none from fun h => by rw [h]; rfl)
 clear hi hz0 hz1 hz2 hrun h45
 go_enter Tryz.func14, Tryz.ntmps14
 go_wp2_with fail
 go_loopw [4, 5] (fun v i wr => ∃ (k : Nat) (acc : List UInt8), k ≤ s.size ∧ i = .int .i64 k ∧ URI w s.data.toList k acc v wr) (fun _ i _ => s.size - (RowKit.intOf i).toNat)
 case atStart => exact ⟨0, [], by omega, rfl, HI0.out⟩
 case round =>
  obtain ⟨k, acc, hk, rfl, hI⟩ := hrel
  rename World => wk
  have HU := Lib.hid hI
  obtain ⟨av, cv, hv⟩ := slice_of_own hI.2.1
  obtain ⟨n, hn⟩ : ∃ n, acc.length = n := ⟨_, rfl⟩
  have hnk : n ≤ k := by rw [← hn]; exact hI.2.2.1
  rw [hn] at hv
  subst hv
  have HOW := Lib.hid (show wk.ownsRow w.heap.size 5 1 (.slice av n cv) n (Lib.byteCells acc) by have h := hI.2.1; rwa [hn] at h)
  have HN := Lib.hid hn
  clear hI HI0 hn
  by_cases hlt : k < s.size
  ·have hne0 : s.data.toList ≠ [] := by
    intro h
    have h1 : s.size = s.data.toList.length := Lib.size_eq s
    rw [h] at h1
    simp only [List.length_nil] at h1
    omega
   have hdr := drop_get s k hlt
   obtain ⟨c, hc⟩ : ∃ c, s[k] = c := ⟨_, rfl⟩
   rw [hc] at hdr
   have HDR := Lib.hid hdr
   have HR := Lib.hid (HRUN.out hne0)
   obtain ⟨q, hq⟩ : ∃ q, itsf c = q := ⟨_, rfl⟩
   have hp := fun w1 => itself_is (c.toNat : Int) q (by rw [itsI_of, hq]) w1
   have hc0 : 0 ≤ (c.toNat : Int) := by omega
   have hc9 : (c.toNat : Int) ≤ 255 := by have := c.toNat_lt; omega
   have HQ := Lib.hid hq
   have hix : ∀ W : World, (Instr.index 9 (.string s) (.int .i64 (k : Int))).run Tryz.prog W = .ok (.int .u8 (c.toNat : Int)) W := fun W => by
    rw [run_index_string (P := Tryz.prog) W 9 s .i64 (k : Int) Tryz.underlying9, dif_pos (by omega), ← hc]
    rfl
   have HNO := Lib.hid (fun (h : rdec (s.data.toList.drop k) = none) => show URE (runword s.data.toList) (.returned (.tuple #[.string ⟨#[]⟩, .bool false])) by
    rw [HR.out, HU.out.2.2.2, h]; rfl)
   clear hne0 hdr hq hne
   cases q with
   | true =>
    clear hc
    go_wp2_with fail
    refine (hp wk).mono ?_
    rintro e w1 ⟨rfl, hw1⟩
    rw [hw1]
    clear hw1 hp
    go_wp2_with (at_builtin; refine wpList_append_own _ rfl _ _ 22 rfl w.heap.size 5 i0 (.int .u8 0) 1 1 Tryz.underlying22 HI.out.1 HI.out.2.1 HI.out.2.2.1 HI.out.2.2.2 rfl (by decide) _ n _ rfl (HOW.out.alloc _) ⟨wk.heap.size, 0, none⟩ 1 1 [.int .u8 (c.toNat : Int)] rfl rfl (cell_one_new _ _ _) (by simp [Value.oneCell']) ?c3 ?c4 ?c5 ?_)
    case c3 => (unfold maxLen; omega)
    case c4 => omega
    case c5 => (have := HU.out.1.size; simp; omega)
    intro v6 w6 hown6 hgrow _
    have HREL := Lib.hid (show URI w s.data.toList (k + 1) (acc ++ [c]) v6 w6 from
     HU.out.snoc (by omega) c (by rw [HDR.out]; exact rdec_its _ _ HQ.out) (later_grown (HU.out.1.alloc _) (HOW.out.alloc _) hgrow) (by rw [HN.out]; exact hown6))
    clear hown6 hgrow
    go_wp2_with fail
    go_roundw
    case rel => exact ⟨k + 1, _, by omega, by go_num, HREL.out⟩
    case measure => simp [RowKit.intOf]; omega
   | false =>
    by_cases h37 : c = 37
    ·by_cases h3 : k + 2 < s.size
     ·have h37' : (c.toNat : Int) = 37 := by rw [h37]; rfl
      have hg : decide ((s.size : Int) ≤ (k : Int) + 2) = false := by simp; omega
      have hg' : ¬ (s.size : Int) ≤ (k : Int) + 2 := by omega
      obtain ⟨a, ha⟩ : ∃ a, s[k + 1] = a := ⟨_, rfl⟩
      obtain ⟨b, hb⟩ : ∃ b, s[k + 2] = b := ⟨_, rfl⟩
      have hwr1 : IntKind.i64.wrap ((k : Int) + 1) = (k : Int) + 1 := IntWalk.i64_in _ (by omega)
      have hwr2 : IntKind.i64.wrap ((k : Int) + 2) = (k : Int) + 2 := IntWalk.i64_in _ (by omega)
      have hi1 : ∀ W : World, (Instr.index 9 (.string s) (.int .i64 ((k : Int) + 1))).run Tryz.prog W = .ok (.int .u8 (a.toNat : Int)) W := fun W => by
       rw [run_index_string (P := Tryz.prog) W 9 s .i64 ((k : Int) + 1) Tryz.underlying9, dif_pos (by omega), ← ha]
       rfl
      have hi2 : ∀ W : World, (Instr.index 9 (.string s) (.int .i64 ((k : Int) + 2))).run Tryz.prog W = .ok (.int .u8 (b.toNat : Int)) W := fun W => by
       rw [run_index_string (P := Tryz.prog) W 9 s .i64 ((k : Int) + 2) Tryz.underlying9, dif_pos (by omega), ← hb]
       rfl
      have hd3 : s.data.toList.drop k = 37 :: a :: b :: s.data.toList.drop (k + 3) := by
       rw [HDR.out, h37, drop_get s (k + 1) (by omega), drop_get s (k + 1 + 1) (by omega), ha]
       have : s[k + 1 + 1] = b := hb
       rw [this]
      have HD3 := Lib.hid hd3
      obtain ⟨va, hva⟩ : ∃ v, valI a = v := ⟨_, rfl⟩
      obtain ⟨vb, hvb⟩ : ∃ v, valI b = v := ⟨_, rfl⟩
      have hA := fun W => value_is a va hva W
      have hB := fun W => value_is b vb hvb W
      have HVA := Lib.hid hva
      have HVB := Lib.hid hvb
      have hx37 : ((c.toNat : Int) != 37) = false := by rw [h37']; rfl
      clear hd3 hva hvb ha hb hc h37 h37'
      cases hea : hexv a with
      | none =>
       obtain rfl : va = -1 := by rw [← HVA.out, valI, hea]
       have HEN := Lib.hid (HNO.out (by rw [HD3.out, rdec_three, hea]))
       clear hea
       go_wp2_with fail
       refine (hp wk).mono ?_
       rintro e w1 ⟨rfl, hw1⟩
       rw [hw1]
       clear hw1 hp
       go_wp2_with fail
       refine (hA wk).mono ?_
       rintro e w1 ⟨rfl, hw1⟩
       rw [hw1]
       clear hw1 hA
       go_wp2_with fail
       refine (hB wk).mono ?_
       rintro e w1 ⟨rfl, hw1⟩
       rw [hw1]
       clear hw1 hB
       go_wp2_with fail
       go_ret2
       exact ⟨HEN.out, HU.out.1⟩
      | some p =>
       obtain rfl : va = (p : Int) := by rw [← HVA.out, valI, hea]
       have hp0 : decide ((p : Int) < 0) = false := by simp
       have hp16 := (hexv_back hea).1
       cases heb : hexv b with
       | none =>
        obtain rfl : vb = -1 := by rw [← HVB.out, valI, heb]
        have HEN := Lib.hid (HNO.out (by rw [HD3.out, rdec_three, hea, heb]))
        clear hea heb
        go_wp2_with fail
        refine (hp wk).mono ?_
        rintro e w1 ⟨rfl, hw1⟩
        rw [hw1]
        clear hw1 hp
        go_wp2_with fail
        refine (hA wk).mono ?_
        rintro e w1 ⟨rfl, hw1⟩
        rw [hw1]
        clear hw1 hA
        go_wp2_with fail
        refine (hB wk).mono ?_
        rintro e w1 ⟨rfl, hw1⟩
        rw [hw1]
        clear hw1 hB
        go_wp2_with fail
        go_ret2
        exact ⟨HEN.out, HU.out.1⟩
       | some g =>
        obtain rfl : vb = (g : Int) := by rw [← HVB.out, valI, heb]
        have hg0 : decide ((g : Int) < 0) = false := by simp
        have hg16 := (hexv_back heb).1
        have hd4 := rdec_three a b (s.data.toList.drop (k + 3))
        rw [hea, heb] at hd4
        simp only at hd4
        obtain ⟨z, hz⟩ : ∃ z : UInt8, UInt8.ofNat (16 * p + g) = z := ⟨_, rfl⟩
        have hzn : (z.toNat : Int) = 16 * (p : Int) + (g : Int) := by rw [← hz, UInt8.toNat_ofNat']; omega
        rw [hz] at hd4
        have HD4 := Lib.hid hd4
        have hwz : IntKind.u8.wrap (16 * (p : Int) + (g : Int)) = (z.toNat : Int) := by rw [IntKind.wrap_u8]; omega
        have hwm : IntKind.i64.wrap (16 * (p : Int)) = 16 * (p : Int) := IntWalk.i64_in _ (by omega)
        have hws : IntKind.i64.wrap (16 * (p : Int) + (g : Int)) = 16 * (p : Int) + (g : Int) := IntWalk.i64_in _ (by omega)
        have hcv : ∀ W : World, (convert 3 5 (.int .i64 (16 * (p : Int) + (g : Int)))).run Tryz.prog W = .ok (.int .u8 (z.toNat : Int)) W := fun W => by
         go_simp
        obtain ⟨qz, hqz⟩ : ∃ qz, itsf z = qz := ⟨_, rfl⟩
        have hpz := fun w1 => itself_is (z.toNat : Int) qz (by rw [itsI_of, hqz]) w1
        have HQZ := Lib.hid hqz
        clear hea heb hd4 hz hzn hqz hwz
        go_wp2_with fail
        refine (hp wk).mono ?_
        rintro e w1 ⟨rfl, hw1⟩
        rw [hw1]
        clear hw1 hp
        go_wp2_with fail
        refine (hA wk).mono ?_
        rintro e w1 ⟨rfl, hw1⟩
        rw [hw1]
        clear hw1 hA
        go_wp2_with fail
        refine (hB wk).mono ?_
        rintro e w1 ⟨rfl, hw1⟩
        rw [hw1]
        clear hw1 hB
        go_wp2_with fail
        refine (hpz wk).mono ?_
        rintro e w1 ⟨rfl, hw1⟩
        rw [hw1]
        clear hw1 hpz
        cases qz with
        | true =>
         have HEN := Lib.hid (HNO.out (by rw [HD3.out, HD4.out, HQZ.out]; rfl))
         go_wp2_with fail
         go_ret2
         exact ⟨HEN.out, HU.out.1⟩
        | false =>
         go_wp2_with (at_builtin; refine wpList_append_own _ rfl _ _ 22 rfl w.heap.size 5 i0 (.int .u8 0) 1 1 Tryz.underlying22 HI.out.1 HI.out.2.1 HI.out.2.2.1 HI.out.2.2.2 rfl (by decide) _ n _ rfl (HOW.out.alloc _) ⟨wk.heap.size, 0, none⟩ 1 1 [.int .u8 (z.toNat : Int)] rfl rfl (cell_one_new _ _ _) (by simp [Value.oneCell']) ?c3 ?c4 ?c5 ?_)
         case c3 => (unfold maxLen; omega)
         case c4 => omega
         case c5 => (have := HU.out.1.size; simp; omega)
         intro v6 w6 hown6 hgrow _
         have HREL := Lib.hid (show URI w s.data.toList (k + 3) (acc ++ [z]) v6 w6 from
          HU.out.snoc (by omega) z (by rw [HD3.out, HD4.out, HQZ.out]; rfl) (later_grown (HU.out.1.alloc _) (HOW.out.alloc _) hgrow) (by rw [HN.out]; exact hown6))
         clear hown6 hgrow
         go_wp2_with fail
         go_roundw
         case rel => exact ⟨k + 3, _, by omega, by go_num, HREL.out⟩
         case measure => simp [RowKit.intOf]; omega
     ·have h37' : (c.toNat : Int) = 37 := by rw [h37]; rfl
      have hx37 : ((c.toNat : Int) != 37) = false := by rw [h37']; rfl
      have hg : decide ((s.size : Int) ≤ (k : Int) + 2) = true := by simp; omega
      have hg' : (s.size : Int) ≤ (k : Int) + 2 := by omega
      have HEN := Lib.hid (HNO.out (by
       rw [HDR.out]
       exact rdec_no _ _ HQ.out (.inr (by have h9 := Lib.size_eq s; rw [List.length_drop]; omega))))
      clear h37' h37 hc
      go_wp2_with fail
      refine (hp wk).mono ?_
      rintro e w1 ⟨rfl, hw1⟩
      rw [hw1]
      clear hw1 hp
      go_wp2_with fail
      go_ret2
      exact ⟨HEN.out, HU.out.1⟩
    ·have hx37 : ((c.toNat : Int) != 37) = true := by
      have : c.toNat ≠ 37 := fun e => h37 (by apply UInt8.toNat_inj.1; rw [e]; rfl)
      simp; omega
     have HEN := Lib.hid (HNO.out (by rw [HDR.out]; exact rdec_no _ _ HQ.out (.inl h37)))
     clear h37 hc
     go_wp2_with fail
     refine (hp wk).mono ?_
     rintro e w1 ⟨rfl, hw1⟩
     rw [hw1]
     clear hw1 hp
     go_wp2_with fail
     go_ret2
     exact ⟨HEN.out, HU.out.1⟩
  ·have hcv : (convert 22 9 (.slice av n cv)).run Tryz.prog wk = .ok (.string ⟨acc.toArray⟩) wk := conv_own HOW.out HN.out.symm
   have HL := Lib.hid HU.out.1
   have hdrop : s.data.toList.drop k = [] := List.drop_of_length_le (by rw [← Lib.size_eq]; omega)
   have HRD := Lib.hid (show rdec s.data.toList = some acc by rw [HU.out.2.2.2, hdrop]; simp [rdec])
   by_cases h0 : s.data.toList = []
   ·have hz : s.size = 0 := by rw [Lib.size_eq, h0]; rfl
    have hacc : acc = [] := by
     have h := HRD.out
     rw [h0] at h
     simpa [rdec] using h.symm
    have HEN := Lib.hid (show URE (runword s.data.toList) (.returned (.tuple #[.string ⟨#[]⟩, .bool false])) by rw [HEMP.out h0]; rfl)
    subst hacc
    have hz1 : ¬ (0 : Int) < (s.size : Int) := by omega
    have hz2 : decide (0 < s.size) = false := decide_eq_false (by omega)
    clear hdrop h0 hz hne
    go_wp2_with fail
    go_ret2
    exact ⟨HEN.out, HL.out⟩
   ·have HEN := Lib.hid (show URE (runword s.data.toList) (.returned (.tuple #[.string ⟨acc.toArray⟩, .bool true])) by rw [HRUN.out h0, HRD.out]; rfl)
    have hz1 : (0 : Int) < (s.size : Int) := by
     have := List.length_pos_iff.2 h0
     rw [← Lib.size_eq] at this
     omega
    have hz2 : decide (0 < s.size) = true := decide_eq_true (by omega)
    clear hdrop h0 hne
    go_wp2_with fail
    go_ret2
    exact ⟨HEN.out, HL.out⟩
theorem refUnword_is (s : ByteArray) (hs : s.size ≤ 1000000000) (w : World) :
  Calls Tryz.prog 14 #[.string s] w fun e w' => URE (runword s.data.toList) e ∧ Later w w' := by
 by_cases h45 : s.data.toList = [45]
 ·have ht : s = ⟨#[45]⟩ := by
   apply ByteArray.ext
   exact Array.toList_inj.1 h45
  subst ht
  have HEN := Lib.hid (show URE (runword (ByteArray.data ⟨#[45]⟩).toList) (.returned (.tuple #[.string ⟨#[]⟩, .bool true])) from rfl)
  clear h45 hs
  go_enter Tryz.func14, Tryz.ntmps14
  go_wp2_with fail
  go_ret2
  exact ⟨HEN.out, Later.refl _⟩
 ·exact refUnword_some s hs h45 w
end Go.Proofs.YtkbedajbbakihaaGreatDoor
