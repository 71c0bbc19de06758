/-
  Plain: a Stat's text and what it says, there and back. Conditions: the counters are words.
-/
import Derived.Test.YthohoendjipleaaGreatDoorSp
namespace Go.Proofs.YthohoendjipleaaGreatDoor
open Go.RowKit Go.Lib

/-- words with a space between two -/
def jn : List (List UInt8) → List UInt8
  | [] => []
  | [a] => a
  | a :: b :: t => a ++ 32 :: jn (b :: t)
theorem jn_cons (c : UInt8) (a : List UInt8) (t : List (List UInt8)) : jn ((c :: a) :: t) = c :: jn (a :: t) := by
  cases t <;> rfl
theorem jn_nil_cons (a : List UInt8) (t : List (List UInt8)) : jn ([] :: a :: t) = 32 :: jn (a :: t) := rfl
theorem jn_spl (l : List UInt8) : jn (spl l) = l := by
  induction l with
  | nil => rfl
  | cons c r ih =>
    obtain ⟨a, t, e⟩ := spl_ex r
    by_cases h : c = 32
    · subst h
      rw [spl_sp, e, jn_nil_cons, ← e, ih]
    · rw [spl_ch c h r a t e, jn_cons, ← e, ih]
theorem spl_word (w r : List UInt8) (h : (32 : UInt8) ∉ w) : spl (w ++ 32 :: r) = w :: spl r := by
  induction w with
  | nil => exact spl_sp r
  | cons c w ih =>
    have hc : c ≠ 32 := fun e => h (by simp [e])
    exact spl_ch c hc _ _ _ (ih (fun k => h (by simp [k])))
theorem spl_last (w : List UInt8) (h : (32 : UInt8) ∉ w) : spl w = [w] := by
  induction w with
  | nil => rfl
  | cons c w ih =>
    have hc : c ≠ 32 := fun e => h (by simp [e])
    exact spl_ch c hc _ _ _ (ih (fun k => h (by simp [k])))
theorem nm_sp (k : Nat) : (32 : UInt8) ∉ nm k := by
  by_cases h : k < 10
  · have : k = 0 ∨ k = 1 ∨ k = 2 ∨ k = 3 ∨ k = 4 ∨ k = 5 ∨ k = 6 ∨ k = 7 ∨ k = 8 ∨ k = 9 := by omega
    rcases this with rfl | rfl | rfl | rfl | rfl | rfl | rfl | rfl | rfl | rfl <;> decide
  · unfold nm
    rw [List.getD_eq_getElem?_getD, List.getElem?_eq_none (by simp [nms]; omega)]
    simp
theorem dec_sp (u : Nat) : (32 : UInt8) ∉ Lib.decDigits u := by
  induction u using Nat.strongRecOn with
  | ind u ih =>
    have hd : ∀ k, k < 10 → (32 : UInt8) ≠ UInt8.ofNat (48 + k) := fun k hk e => by
      have := congrArg UInt8.toNat e
      rw [digit_nat k hk] at this
      have h32 : (32 : UInt8).toNat = 32 := rfl
      omega
    rw [Lib.decDigits]
    by_cases h : u < 10
    · rw [dif_pos h]
      simpa using hd u h
    · rw [dif_neg h]
      have h1 := ih (u / 10) (by omega)
      have h2 := hd (u % 10) (by omega)
      simp only [List.mem_append, List.mem_cons, List.not_mem_nil, or_false, not_or]
      exact ⟨h1, h2⟩
theorem hexd_nat (n : Nat) (h : n < 16) : (hexd n).toNat = if n < 10 then 48 + n else 87 + n := by
  unfold hexd
  split
  · rw [Nat.toUInt8, UInt8.toNat_ofNat']; omega
  · rw [Nat.toUInt8, UInt8.toNat_ofNat']; omega
theorem hex_sp (u k : Nat) : (32 : UInt8) ∉ hexL u k := by
  unfold hexL
  intro h
  obtain ⟨j, _, hj⟩ := List.mem_map.1 h
  have := congrArg UInt8.toNat hj
  rw [hexd_nat _ (Nat.mod_lt _ (by omega))] at this
  have h32 : (32 : UInt8).toNat = 32 := rfl
  split at this <;> omega
/-- the words of a Stat's text -/
def fW (x : Nat → Int) : Nat → List (List UInt8)
  | 0 => []
  | k + 1 => fW x k ++ [nm k, Lib.decDigits (nX x k)]
def wordsOf (x : Nat → Int) (a b : Nat) : List (List UInt8) := fW x 10 ++ [ldW, hexL a 16, hexL b 16]
theorem spl_pre (x : Nat → Int) (k : Nat) (r : List UInt8) : spl (preL x k ++ r) = fW x k ++ spl r := by
  induction k generalizing r with
  | zero => rfl
  | succ k ih =>
    have e : preL x (k + 1) ++ r = preL x k ++ (nm k ++ 32 :: (Lib.decDigits (nX x k) ++ 32 :: r)) := by
      simp [preL, pieceL]
    rw [e, ih, spl_word _ _ (nm_sp k), spl_word _ _ (dec_sp _), fW, List.append_assoc]
    rfl
theorem spl_fmt (x : Nat → Int) (a b : Nat) : spl (fmtL x a b) = wordsOf x a b := by
  unfold fmtL wordsOf
  rw [spl_pre]
  congr 1
  have e : loadL a b = ldW ++ 32 :: (hexL a 16 ++ 32 :: hexL b 16) := by simp [loadL, ldW]
  rw [e, spl_word _ _ (by decide), spl_word _ _ (hex_sp _ _), spl_last _ (hex_sp _ _)]
theorem hexL_snoc (u k : Nat) : hexL u (k + 1) = hexL (u / 16) k ++ [hexd (u % 16)] := by
  unfold hexL
  rw [List.range_succ, List.map_append]
  congr 1
  · apply List.map_congr_left
    intro j hj
    have hj' : j < k := List.mem_range.1 hj
    have e : k + 1 - 1 - j = (k - 1 - j) + 1 := by omega
    rw [e, Nat.div_div_eq_div_mul, Nat.pow_succ, Nat.mul_comm]
  · simp
theorem hx_append (l m : List UInt8) (acc : Nat) : hx acc (l ++ m) = (hx acc l).bind fun a => hx a m := by
  induction l generalizing acc with
  | nil => rfl
  | cons c r ih =>
    rw [List.cons_append, hx, hx]
    split
    · exact ih _
    · split
      · exact ih _
      · rfl
theorem hx_one (acc d : Nat) (h : d < 16) : hx acc [hexd d] = some (acc * 16 + d) := by
  have e := hexd_nat d h
  simp only [hx]
  split at e
  · rw [if_pos (by omega)]; congr 1; omega
  · rw [if_neg (by omega), if_pos (by omega)]; congr 1; omega
theorem hx_hexL (k : Nat) : ∀ u, u < 16 ^ k → hx 0 (hexL u k) = some u := by
  induction k with
  | zero =>
    intro u h
    have h0 : u = 0 := by simpa using h
    rw [h0]; rfl
  | succ k ih =>
    intro u h
    rw [Nat.pow_succ] at h
    rw [hexL_snoc, hx_append, ih (u / 16) (by omega), Option.bind_some, hx_one _ _ (by omega)]
    congr 1
    omega
theorem hexD_hexL (u : Nat) (h : u < 18446744073709551616) : hexD (hexL u 16) = some u := by
  unfold hexD
  rw [if_pos (hexL_length u 16)]
  exact hx_hexL 16 u h
theorem hexd_of (c : UInt8) (acc u : Nat) (h : hx acc [c] = some u) : ∃ d, d < 16 ∧ u = acc * 16 + d ∧ hexd d = c := by
  simp only [hx] at h
  split at h
  · rename_i hd
    refine ⟨c.toNat - 48, by omega, by simpa using h.symm, UInt8.toNat.inj ?_⟩
    rw [hexd_nat _ (by omega), if_pos (by omega)]; omega
  · split at h
    · rename_i hd
      refine ⟨c.toNat - 87, by omega, by simpa using h.symm, UInt8.toNat.inj ?_⟩
      rw [hexd_nat _ (by omega), if_neg (by omega)]; omega
    · cases h
theorem hexL_of (k : Nat) : ∀ (w : List UInt8) (u : Nat), w.length = k → hx 0 w = some u → hexL u k = w := by
  induction k with
  | zero => intro w u hw _; rw [List.eq_nil_of_length_eq_zero hw]; rfl
  | succ k ih =>
    intro w u hw h
    have hne : w ≠ [] := by intro e; rw [e] at hw; cases hw
    obtain ⟨v, c, rfl⟩ : ∃ v c, w = v ++ [c] := ⟨w.dropLast, w.getLast hne, (List.dropLast_concat_getLast hne).symm⟩
    rw [hx_append] at h
    cases hm : hx 0 v with
    | none => rw [hm] at h; cases h
    | some m =>
      rw [hm, Option.bind_some] at h
      obtain ⟨d, hd, rfl, hc⟩ := hexd_of c m u h
      rw [hexL_snoc, show (m * 16 + d) / 16 = m by omega, show (m * 16 + d) % 16 = d by omega, hc, ih v m (by simpa using hw) hm]
theorem hexL_hexD {w : List UInt8} {u : Nat} (h : hexD w = some u) : hexL u 16 = w := by
  have hl := hexD_len h
  unfold hexD at h
  rw [if_pos hl] at h
  exact hexL_of 16 w u hl h
theorem fW_len (x : Nat → Int) (k : Nat) : (fW x k).length = 2 * k := by
  induction k with
  | zero => rfl
  | succ k ih => rw [fW, List.length_append, ih]; simp; omega
theorem fW_get (x : Nat → Int) (k : Nat) : ∀ j, j < k → (fW x k)[2 * j]? = some (nm j) ∧ (fW x k)[2 * j + 1]? = some (Lib.decDigits (nX x j)) := by
  induction k with
  | zero => intro j hj; omega
  | succ k ih =>
    intro j hj
    have hl := fW_len x k
    by_cases h : j < k
    · obtain ⟨h1, h2⟩ := ih j h
      rw [fW, List.getElem?_append_left (by omega), List.getElem?_append_left (by omega)]
      exact ⟨h1, h2⟩
    · obtain rfl : j = k := by omega
      rw [fW, List.getElem?_append_right (by omega), List.getElem?_append_right (by omega), hl]
      have e1 : 2 * j - 2 * j = 0 := by omega
      have e2 : 2 * j + 1 - 2 * j = 1 := by omega
      rw [e1, e2]
      exact ⟨rfl, rfl⟩
theorem wrd_of {ws : List (List UInt8)} {j : Nat} {w : List UInt8} (h : ws[j]? = some w) : wrd ws j = w := by
  unfold wrd
  rw [List.getD_eq_getElem?_getD, h]; rfl
theorem wordsOf_len (x : Nat → Int) (a b : Nat) : (wordsOf x a b).length = 23 := by
  unfold wordsOf
  rw [List.length_append, fW_len]; rfl
theorem wordsOf_get (x : Nat → Int) (a b : Nat) : (∀ j, j < 10 → wrd (wordsOf x a b) (2 * j) = nm j ∧ wrd (wordsOf x a b) (2 * j + 1) = Lib.decDigits (nX x j)) ∧ wrd (wordsOf x a b) 20 = ldW ∧ wrd (wordsOf x a b) 21 = hexL a 16 ∧ wrd (wordsOf x a b) 22 = hexL b 16 := by
  have hl := fW_len x 10
  refine ⟨fun j hj => ?_, ?_, ?_, ?_⟩
  · obtain ⟨h1, h2⟩ := fW_get x 10 j hj
    refine ⟨wrd_of ?_, wrd_of ?_⟩
    · unfold wordsOf; rw [List.getElem?_append_left (by omega)]; exact h1
    · unfold wordsOf; rw [List.getElem?_append_left (by omega)]; exact h2
  all_goals
    refine wrd_of ?_
    unfold wordsOf
    rw [List.getElem?_append_right (by omega), hl]
    rfl
/-- a Stat's text says the Stat -/
theorem pr_fmt (x : Nat → Int) (hx : okX x) (a b : Nat) (ha : a ≤ W2) (hb : b ≤ W2) : prC (spl (fmtL x a b)) = 0 ∧ (∀ j, j < 10 → prX (spl (fmtL x a b)) j = x j) ∧ prA (spl (fmtL x a b)) = a ∧ prB (spl (fmtL x a b)) = b := by
  rw [spl_fmt]
  obtain ⟨h1, h2, h3, h4⟩ := wordsOf_get x a b
  unfold W2 at ha hb
  have ea := hexD_hexL a (by omega)
  have eb := hexD_hexL b (by omega)
  have hn : ∀ j, j < 10 → numD (wrd (wordsOf x a b) (2 * j + 1)) = some (nX x j) := fun j hj => by
    rw [(h1 j hj).2]
    exact numD_digits _ (by have := hx j; unfold nX; omega)
  have hok : okW (wordsOf x a b) := by
    refine ⟨⟨wordsOf_len x a b, h2⟩, fun j hj => ⟨(h1 j hj).1, _, hn j hj⟩, ⟨a, ?_⟩, ⟨b, ?_⟩⟩
    · rw [h3]; exact ea
    · rw [h4]; exact eb
  have hpa : pA (wordsOf x a b) = a := by unfold pA; rw [h3, ea]; rfl
  have hpb : pB (wordsOf x a b) = b := by unfold pB; rw [h4, eb]; rfl
  have hc := prC_ok hok (by unfold smallW W2; rw [hpa, hpb]; exact ⟨ha, hb⟩)
  obtain ⟨p1, p2, p3⟩ := pr_ok hc
  refine ⟨hc, fun j hj => ?_, p2.trans hpa, p3.trans hpb⟩
  rw [p1, pX_some (hn j hj)]
  have := hx j
  unfold nX
  omega
theorem statV_congr {x y : Nat → Int} (h : ∀ j, j < 10 → x j = y j) (a b : Nat) : statV x a b = statV y a b := by
  unfold statV
  rw [h 0 (by omega), h 1 (by omega), h 2 (by omega), h 3 (by omega), h 4 (by omega), h 5 (by omega), h 6 (by omega), h 7 (by omega), h 8 (by omega), h 9 (by omega)]
/-- the text of what a text says is the text -/
theorem fmt_pr (l : List UInt8) (h : prC (spl l) = 0) : fmtL (prX (spl l)) (prA (spl l)) (prB (spl l)) = l := by
  obtain ⟨⟨⟨h23, h20⟩, hf, ⟨u, hu⟩, ⟨v, hv⟩⟩, hsm⟩ := prC_zero h
  obtain ⟨p1, p2, p3⟩ := pr_ok h
  have hpa : pA (spl l) = u := by unfold pA; rw [hu]; rfl
  have hpb : pB (spl l) = v := by unfold pB; rw [hv]; rfl
  rw [p1, p2, p3, hpa, hpb]
  have key : spl (fmtL (pX (spl l)) u v) = spl l := by
    rw [spl_fmt]
    obtain ⟨h1, h2, h3, h4⟩ := wordsOf_get (pX (spl l)) u v
    have hw : ∀ j, j < 23 → wrd (wordsOf (pX (spl l)) u v) j = wrd (spl l) j := by
      intro j hj
      by_cases hj20 : j < 20
      · obtain ⟨g1, z, g2⟩ := hf (j / 2) (by omega)
        obtain ⟨k1, k2⟩ := h1 (j / 2) (by omega)
        by_cases ho : j % 2 = 0
        · have e : 2 * (j / 2) = j := by omega
          rw [e] at g1 k1
          rw [k1, g1]
        · have e : 2 * (j / 2) + 1 = j := by omega
          have hx := pX_some g2
          rw [e] at g2 k2
          rw [k2]
          unfold nX
          rw [hx, Int.toNat_natCast]
          exact numD_word g2
      · have h3' : j = 20 ∨ j = 21 ∨ j = 22 := by omega
        rcases h3' with rfl | rfl | rfl
        · rw [h2, h20]
        · rw [h3]; exact hexL_hexD hu
        · rw [h4]; exact hexL_hexD hv
    apply List.ext_getElem
    · rw [wordsOf_len, h23]
    · intro j hj1 hj2
      have := hw j (by rw [h23] at hj2; exact hj2)
      unfold wrd at this
      rw [List.getD_eq_getElem?_getD, List.getD_eq_getElem?_getD, List.getElem?_eq_getElem hj1, List.getElem?_eq_getElem hj2] at this
      exact this
  rw [← jn_spl (fmtL (pX (spl l)) u v), key, jn_spl]
end Go.Proofs.YthohoendjipleaaGreatDoor
