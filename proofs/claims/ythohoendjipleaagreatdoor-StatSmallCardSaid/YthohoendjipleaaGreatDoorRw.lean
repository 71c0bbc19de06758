/-
  The reference's words, walked: a text's words as a slice that nobody else holds. Conditions: the text has at most 100000 bytes.
-/
import Derived.Test.YthohoendjipleaaGreatDoorM
import Derived.Test.YthohoendjipleaaGreatDoorOw
import Derived.Test.YthohoendjipleaaGreatDoorPs
import Derived.BigRegion
namespace Go.Proofs.YthohoendjipleaaGreatDoor
open Go.RowKit Go.Lib
set_option linter.unusedSimpArgs false
set_option linter.unusedVariables false

/-- words as cells -/
def wsC (ws : List (List UInt8)) : List Value := ws.map fun x => Value.string ⟨x.toArray⟩
theorem wsC_length (ws : List (List UInt8)) : (wsC ws).length = ws.length := by simp [wsC]
theorem wsC_get {ws : List (List UInt8)} {j : Nat} (h : j < ws.length) : (wsC ws)[j]? = some (.string ⟨(ws.getD j []).toArray⟩) := by
  simp [wsC, List.getElem?_map, List.getElem?_eq_getElem h, List.getD_eq_getElem?_getD]
theorem wsC_addL (ws : List (List UInt8)) (c : UInt8) (h : ws ≠ []) : wsC (addL ws c) = (wsC ws).set (ws.length - 1) (.string ⟨(ws.getLastD [] ++ [c]).toArray⟩) := by
  obtain ⟨l, a, rfl⟩ : ∃ l a, ws = l ++ [a] := ⟨ws.dropLast, ws.getLast h, (List.dropLast_concat_getLast h).symm⟩
  simp [addL, wsC]
theorem addL_len (ws : List (List UInt8)) (c : UInt8) (h : ws ≠ []) : (addL ws c).length = ws.length := by
  obtain ⟨l, a, rfl⟩ : ∃ l a, ws = l ++ [a] := ⟨ws.dropLast, ws.getLast h, (List.dropLast_concat_getLast h).symm⟩
  simp [addL]
theorem spl_ne (l : List UInt8) : spl l ≠ [] := by
  obtain ⟨a, t, e⟩ := spl_ex l
  rw [e]; simp
theorem info9 : (Tryz.prog.info? 9).map (fun i => (i.zero, i.size, i.bytes)) = some (some (.string ⟨#[]⟩), 1, 16) := by kernel_rfl
theorem app1 (a : List UInt8) (t : ByteArray) (k : Nat) (h : k < t.size) : (⟨a.toArray⟩ : ByteArray) ++ t.extract k (k + 1) = ⟨(a ++ [t[k]]).toArray⟩ := by
  apply ByteArray.ext
  apply Array.toList_inj.1
  rw [ByteArray.data_append, Array.toList_append, ByteArray.data_extract, Array.toList_extract]
  have hk : k < t.data.size := h
  simp only [List.extract_eq_take_drop, Nat.add_sub_cancel_left]
  congr 1
  rw [List.drop_eq_getElem_cons (by simpa using hk)]
  rfl
/-- the words of the first k bytes -/
def WI (w wr : World) (t : ByteArray) (k : Nat) (v : Value) : Prop :=
  Later w wr ∧ wr.ownsRow w.heap.size 9 1 v (spl (t.data.toList.take k)).length (wsC (spl (t.data.toList.take k)))
theorem WI.drew {w wr : World} {t : ByteArray} {k : Nat} {v : Value} (h : WI w wr t k v) : WI w wr.drew t k v := ⟨h.1.drew, ownsRow_later h.2 (Later.refl _).drew⟩
theorem take_snoc (s : ByteArray) (k : Nat) (h : k < s.size) : s.data.toList.take (k + 1) = s.data.toList.take k ++ [s[k]] := by
  rw [List.take_succ_eq_append_getElem (by simpa using h)]; rfl
theorem spl_len_le (t : ByteArray) (k : Nat) (hk : k ≤ t.size) : 0 < (spl (t.data.toList.take k)).length ∧ (spl (t.data.toList.take k)).length ≤ t.size + 1 := by
  rw [spl_len]
  have h1 := List.count_le_length (a := (32 : UInt8)) (l := t.data.toList.take k)
  have h2 : (t.data.toList.take k).length ≤ k := List.length_take_le _ _
  omega
theorem last_get (ws : List (List UInt8)) (h : ws ≠ []) : (wsC ws)[ws.length - 1]? = some (.string ⟨(ws.getLastD []).toArray⟩) := by
  obtain ⟨l, a, rfl⟩ : ∃ l a, ws = l ++ [a] := ⟨ws.dropLast, ws.getLast h, (List.dropLast_concat_getLast h).symm⟩
  simp [wsC]
theorem getLast_len (ws : List (List UInt8)) : (ws.getLastD []).length ≤ sumL ws := by
  induction ws with
  | nil => simp
  | cons a t ih =>
    cases t with
    | nil => simp [sumL]
    | cons b t =>
      have e : (a :: b :: t).getLastD [] = (b :: t).getLastD [] := by simp [List.getLastD]
      rw [e]
      have : sumL (a :: b :: t) = a.length + sumL (b :: t) := by simp [sumL]
      omega

set_option maxRecDepth 100000 in
set_option maxHeartbeats 8000000 in
theorem refWords_is (t : ByteArray) (hmax : t.size ≤ 100000) (w : World) :
    Calls Tryz.prog 41 #[.string t] w fun e w' => ∃ v, e = .returned v ∧ w'.ownsRow w.heap.size 9 1 v (spl t.data.toList).length (wsC (spl t.data.toList)) ∧ Later w w' := by
  obtain ⟨i0, hi0, hiz, his, hib⟩ := info_parts info9
  go_enter Tryz.func41, Tryz.ntmps41
  go_wp2_with fail
  have hI0 : WI w (w.alloc (.cells #[.string ⟨#[]⟩] 9)) t 0 (.slice (some ⟨w.heap.size, 0, none⟩) 1 1) := by
    refine ⟨(Later.refl w).alloc _, ?_⟩
    rw [List.take_zero]
    exact ⟨rfl, .inr ⟨w.heap.size, 1, #[.string ⟨#[]⟩], rfl, Nat.le_refl _, (MapKept.heap_alloc w _).1, Nat.le_refl _, by unfold maxLen; omega, rfl, rfl⟩⟩
  go_loopw [3, 4] (fun v3 v4 wr => ∃ k : Nat, k ≤ t.size ∧ v4 = .int .i64 (k : Int) ∧ WI w wr t k v3) (fun _ v4 _ => t.size - (RowKit.intOf v4).toNat)
  case atStart => exact ⟨0, by omega, rfl, hI0⟩
  case round =>
    obtain ⟨k, hk, rfl, hI⟩ := hrel
    rename World => wk
    clear hI0
    by_cases hlt : k < t.size
    · have hl1 := spl_len_le t k hk
      by_cases hc : t[k] = 32
      · have hc1 : ((t[k].toNat : Int) == 32) = true := by rw [hc]; rfl
        have hc2 : (t[k].toNat == 32) = true := by rw [hc]; rfl
        have hsp : spl (t.data.toList.take (k + 1)) = spl (t.data.toList.take k) ++ [[]] := by rw [take_snoc t k hlt, hc, spl_snoc_sp]
        have HI := Lib.hid hI
        have HSP := Lib.hid hsp
        obtain ⟨n, hn⟩ : ∃ n, (spl (t.data.toList.take k)).length = n := ⟨_, rfl⟩
        have hown := hI.2
        rw [hn] at hown hl1
        have HOWN := Lib.hid hown
        have HN := Lib.hid hn
        clear hc hI hsp hown hn
        have hs5 : w.heap.size ≤ wk.heap.size := HI.out.1.size
        go_wp2_with (first | (refine wpList_append_own _ rfl (.tmp 16) (.tmp 17) 41 rfl w.heap.size 9 i0 _ 1 16 Tryz.underlying41 hi0 hiz his hib rfl (by decide) _ _ _ rfl (HOWN.out.alloc _) ⟨wk.heap.size, 0, none⟩ 1 1 [.string ⟨#[]⟩] rfl rfl ?c1 ?c2 ?c3 ?c4 ?c5 ?_))
        case c1 => exact fun j u hu => by rw [addr_add, World.cell?_alloc_new]; simpa using hu
        case c2 => exact fun u hu => by revert u; simp [Value.oneCell']
        case c3 => (unfold maxLen; omega)
        case c4 => omega
        case c5 => (simp; omega)
        intro v' w6 hown' hgrow _
        have hnext : WI w w6 t (k + 1) v' := by
          refine ⟨Below.grown (HI.out.1.alloc _) hgrow (HI.out.1.alloc _).size (fun j hj => (HOWN.out.lt j hj).1), ?_⟩
          rw [HSP.out, List.length_append, HN.out, wsC, List.map_append]
          exact hown'
        clear hown' hgrow
        go_wp2_with fail
        go_roundw
        case rel => exact ⟨k + 1, by omega, by go_num, hnext⟩
        case measure => simp [RowKit.intOf]; omega
      · have hc1 : ((t[k].toNat : Int) == 32) = false := by
          rw [beq_eq_false_iff_ne]
          intro h
          exact hc (UInt8.toNat.inj (by have : (32 : UInt8).toNat = 32 := rfl; omega))
        have hsp : spl (t.data.toList.take (k + 1)) = addL (spl (t.data.toList.take k)) t[k] := by rw [take_snoc t k hlt, spl_snoc_ch _ _ hc]
        obtain ⟨hlk, hown⟩ := hI
        obtain ⟨g, cap, cur, rfl, hbg, -, hncap, hcm, -, -⟩ := ownsRow_block hown hl1.1
        obtain ⟨m, hm⟩ : ∃ m, (spl (t.data.toList.take k)).length = m + 1 := ⟨(spl (t.data.toList.take k)).length - 1, by omega⟩
        have hlast := last_get _ (spl_ne (t.data.toList.take k))
        rw [hm, Nat.add_sub_cancel] at hlast
        have hcell := ownsRow_cell hown hlast
        have hfree := ownsRow_free hown hl1.1 m
        have hA : ((spl (t.data.toList.take k)).getLastD []).length ≤ t.size := by
          have h1 := getLast_len (spl (t.data.toList.take k))
          have h2 := spl_sum (t.data.toList.take k)
          have h3 : (t.data.toList.take k).length ≤ k := List.length_take_le _ _
          omega
        obtain ⟨A, hAe⟩ : ∃ A, (spl (t.data.toList.take k)).getLastD [] = A := ⟨_, rfl⟩
        have happ := app1 A t k hlt
        have hset := ownsRow_set (u := .string ⟨(A ++ [t[k]]).toArray⟩) hown (j := m) (by omega)
        have hnext : wk.heap.size ≤ wk.heap.size → WI w (wk.setCell ⟨g, m, none⟩ (.string ⟨(A ++ [t[k]]).toArray⟩)) t (k + 1) (.slice (some ⟨g, 0, none⟩) (m + 1) cap) := fun _ => by
          refine ⟨hlk.setCell _ _ hbg, ?_⟩
          rw [hsp, addL_len _ _ (spl_ne _), wsC_addL _ _ (spl_ne _), hm, Nat.add_sub_cancel, hAe]
          rw [hm] at hset
          exact hset
        have HNEXT := Lib.hid (hnext (Nat.le_refl _))
        rw [hAe] at hcell hA
        have hsz : (⟨A.toArray⟩ : ByteArray).size = A.length := by simp [ByteArray.size]
        obtain ⟨S, hS⟩ : ∃ S : ByteArray, (⟨A.toArray⟩ : ByteArray) = S := ⟨_, rfl⟩
        obtain ⟨Z, hZ⟩ : ∃ Z : ByteArray, (⟨(A ++ [t[k]]).toArray⟩ : ByteArray) = Z := ⟨_, rfl⟩
        rw [hS] at hcell hsz happ
        rw [hZ] at happ HNEXT
        have hcat : ¬ 9223372036854775807 < S.size + 1 := by omega
        rw [hm] at hl1 hncap ⊢
        have hml : m < 200000 := by omega
        have hcap2 : (m : Int) < cap := by omega
        clear hnext hset hsp hlast hown hAe hS hZ hA hsz hlk hc
        go_wp2_with fail
        go_region
        go_wp2_with fail
        go_roundw
        case rel => exact ⟨k + 1, by omega, by go_num, HNEXT.out.drew⟩
        case measure => simp [RowKit.intOf]; omega
    · obtain rfl : k = t.size := by omega
      have hF : t.data.toList.take t.size = t.data.toList := List.take_of_length_le (by rw [Lib.size_eq]; exact Nat.le_refl _)
      obtain ⟨h1, h2⟩ := hI
      rw [hF] at h2
      have H := Lib.hid (And.intro h2 h1)
      clear h1 h2 hF
      go_wp2_with fail
      go_ret
      exact ⟨_, rfl, H.out⟩
end Go.Proofs.YthohoendjipleaaGreatDoor
